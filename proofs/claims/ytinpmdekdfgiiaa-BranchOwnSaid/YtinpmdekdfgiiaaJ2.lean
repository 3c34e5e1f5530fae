/- Joined: B6, B7, B8, B9, B10, B11, B12, B13. -/
import Derived.Test.YtinpmdekdfgiiaaJ1
import Derived.Deep.RegionWith
import Derived.StillTailTactics
import Derived.Deep.Onto
import Derived.Laws.BitsLemmas
import Derived.Shelf.Abstract
import Derived.Deep.RegionHeld3
/- Branching programs: Width (both texts). -/
set_option linter.unusedVariables false
set_option linter.unusedSimpArgs false
namespace Go.Proofs.Ytinpmdekdfgiiaa
open Go.RowKit

theorem make_ints1 (n : Nat) (hn : n ≤ 35184372088831) (W : World) :
    (Instr.makeSlice 36 (.int .i64 ((n : Int) + 1)) (.int .i64 ((n : Int) + 1))).run Try.prog W = .ok (.slice (some ⟨W.heap.size, 0, none⟩) (n + 1) (n + 1)) (W.alloc (.cells (ints (List.replicate (n + 1) 0)).toArray 3)) :=
  make_ints (n + 1) (by omega) W

set_option maxRecDepth 100000 in
set_option maxHeartbeats 1000000 in
theorem width_any (i s : Int) (A : Option Addr) (c : Nat) (l : List Nd) (w : World) (hl : l.length ≤ 140737488355328) (hr : RN w A l) :
    Calls Try.prog 18 #[.agg #[.int .i64 i, .int .i64 s, .slice A l.length c]] w fun e w' => e = .returned (.int .i64 (if validB i s l then widB s l else -1)) ∧ Kept w w' := by
  have o0 := Own.new w 24 [.int .i64 i, .int .i64 s, .slice A l.length c]
  cases hv : validB i s l
  · go_enter Try.func18, Try.ntmps18
    go_wp2_with fail
    refine (valid_any _ _ _ _ _ _ hl (hr.kept (kept_alloc (kept_refl _) _))).mono ?_
    rintro e w1 ⟨rfl, k1⟩
    rw [hv]
    go_wp2_with fail
    go_ret
    exact ⟨rfl, kept_trans (kept_alloc (kept_refl _) _) k1⟩
  · obtain ⟨hi0, hi1, hln, hs⟩ := valid_start hv
    have hmk := make_ints1 l.length (by omega)
    go_enter Try.func18, Try.ntmps18
    go_wp2_with fail
    refine (valid_any _ _ _ _ _ _ hl (hr.kept (kept_alloc (kept_refl _) _))).mono ?_
    rintro e w1 ⟨rfl, k1⟩
    rw [hv]
    replace o0 := o0.kept k1
    replace k1 := kept_trans (kept_alloc (kept_refl _) _) k1
    have q0 := o0.cell (j := 0) rfl
    have q1 := o0.cell (j := 1) rfl
    have q2 := o0.cell (j := 2) rfl
    have z1 := o0.lt
    have o1 := Own.new w1 3 (ints (List.replicate (l.length + 1) 0))
    go_wp2_with fail
    refine (levels_any _ _ _ _ _ _ (hr.kept (kept_alloc k1 _)) hv).mono ?_
    rintro e w2 ⟨g, rfl, hg, ho, k2⟩
    clear q0 q1 q2 hmk
    replace o1 := o1.kept k2
    have s1 := k1.size
    simp only [World.size_alloc] at hg
    replace k2 := kept_trans (kept_alloc k1 _) k2
    go_wp2_with fail
    go_loopg [17] l.length (fun g' s17 wr => ∃ k : Nat, k ≤ l.length ∧ g' = l.length - k ∧ s17 = .int .i64 k ∧ Kept w wr ∧ Own wr g 3 (ints (lv s l)) ∧ Own wr w1.heap.size 3 (ints (cnt (lv s l) k)))
    case atStart => exact ⟨0, by omega, rfl, rfl, k2, ho, by simpa [cnt] using o1⟩
    case round =>
      clear ho o1
      obtain ⟨k, hk, rfl, rfl, k3, ho, o1⟩ := hrel
      by_cases hlt : k < l.length
      · have low := lv_low hv k
        have ck := ho.int (j := k) (by simpa using hlt)
        by_cases hx : 0 ≤ ia (lv s l) k
        · have cx := o1.int (j := (ia (lv s l) k).toNat) (by simp; omega)
          have cf := o1.frozen (ia (lv s l) k).toNat
          have bd := cnt_bd (lv s l) k (ia (lv s l) k).toNat
          go_wp2_with fail
          go_roundg (l.length - (k + 1))
          case rel => exact ⟨k + 1, by omega, rfl, by go_num, (by repeat (first | assumption | refine kept_drew ?_ | refine kept_alloc ?_ _ | refine kept_set ?_ (by omega) _)), (by repeat (first | assumption | refine Own.drew ?_ | refine Own.alloc ?_ _ | refine Own.other ?_ (by dsimp only; omega) _)), by rw [cnt, if_pos hx]; exact o1.setInt _ _⟩
          case measure => omega
        · go_wp2_with fail
          go_roundg (l.length - (k + 1))
          case rel => exact ⟨k + 1, by omega, rfl, by go_num, k3, ho, by rw [cnt, if_neg (by omega)]; exact o1⟩
          case measure => omega
      · have : k = l.length := by omega
        subst this
        go_wp2_with fail
        refine (max_any _ _ _ _ _ (by simp) o1.rd (by simp) (by simp; omega) (fun j => by have := cnt_bd (lv s l) l.length j; omega)).mono ?_
        rintro e w4 ⟨rfl, rfl⟩
        go_wp2_with fail
        go_ret
        exact ⟨rfl, k3⟩

set_option maxRecDepth 100000 in
set_option maxHeartbeats 1000000 in
theorem rwidth_any (i s : Int) (A : Option Addr) (c : Nat) (l : List Nd) (w : World) (hr : RN w A l) (hv : validB i s l = true) :
    Calls Try.prog 21 #[.agg #[.int .i64 i, .int .i64 s, .slice A l.length c]] w fun e w' => e = .returned (.int .i64 (widB s l)) ∧ Kept w w' := by
  obtain ⟨hi0, hi1, hln, hs⟩ := valid_start hv
  have hmk := make_ints1 l.length (by omega)
  go_enter Try.func21, Try.ntmps21
  go_wp2_with fail
  refine (rlevels_any _ _ _ _ _ _ (hr.kept (kept_alloc (kept_refl _) _)) hv).mono ?_
  rintro e w1 ⟨g, rfl, hg, ho, k1⟩
  replace k1 := kept_trans (kept_alloc (kept_refl _) _) k1
  have o1 := Own.new w1 3 (ints (List.replicate (l.length + 1) 0))
  have s1 := k1.size
  have s2 := ho.lt
  go_wp2_with fail
  clear hmk
  go_loopg [5, 6] l.length (fun g' s5 s6 wr => ∃ k : Nat, k ≤ l.length ∧ g' = l.length - k ∧ s6 = .int .i64 k ∧ s5 = .int .i64 (mxL (cnt (lv s l) k)) ∧ Kept w wr ∧ Own wr g 3 (ints (lv s l)) ∧ Own wr w1.heap.size 3 (ints (cnt (lv s l) k)))
  case atStart => exact ⟨0, by omega, rfl, rfl, by rw [show cnt (lv s l) 0 = List.replicate ((lv s l).length + 1) 0 from rfl, mxL_zero], kept_alloc k1 _, ho.alloc _, by simpa [cnt] using o1⟩
  case round =>
    clear ho o1
    obtain ⟨k, hk, rfl, rfl, rfl, k3, ho, o1⟩ := hrel
    by_cases hlt : k < l.length
    · have low := lv_low hv k
      have ck := ho.int (j := k) (by simpa using hlt)
      by_cases hx : 0 ≤ ia (lv s l) k
      · have cx := o1.int (j := (ia (lv s l) k).toNat) (by simp; omega)
        have cf := o1.frozen (ia (lv s l) k).toNat
        have bd := cnt_bd (lv s l) k (ia (lv s l) k).toNat
        have hst := mxL_set (M := cnt (lv s l) k) (x := (ia (lv s l) k).toNat) (v := ia (cnt (lv s l) k) (ia (lv s l) k).toNat + 1) (by simp; omega) (by omega)
        have hcs : cnt (lv s l) (k + 1) = (cnt (lv s l) k).set (ia (lv s l) k).toNat (ia (cnt (lv s l) k) (ia (lv s l) k).toNat + 1) := by rw [cnt, if_pos hx]
        have HST := Lib.hid hst; clear hst
        have HCS := Lib.hid hcs; clear hcs
        have ne : g ≠ w1.heap.size := by omega
        go_wp2_with fail
        all_goals
          go_roundg (l.length - (k + 1))
          case rel => exact ⟨k + 1, by omega, rfl, by go_num, congrArg (Value.int .i64) (by rw [HCS.out, HST.out]; omega), (by repeat (first | assumption | refine kept_drew ?_ | refine kept_alloc ?_ _ | refine kept_set ?_ (by omega) _)), (by repeat (first | assumption | refine Own.drew ?_ | refine Own.alloc ?_ _ | refine Own.other ?_ (by dsimp only; omega) _)), by rw [HCS.out]; exact o1.setInt _ _⟩
          case measure => omega
      · have hcs : cnt (lv s l) (k + 1) = cnt (lv s l) k := by rw [cnt, if_neg (by omega)]
        have HCS := Lib.hid hcs; clear hcs
        go_wp2_with fail
        go_roundg (l.length - (k + 1))
        case rel => exact ⟨k + 1, by omega, rfl, by go_num, by rw [HCS.out], k3, ho, by rw [HCS.out]; exact o1⟩
        case measure => omega
    · have : k = l.length := by omega
      subst this
      go_wp2_with fail
      go_ret
      exact ⟨rfl, k3⟩
end Go.Proofs.Ytinpmdekdfgiiaa

/- Branching programs: Layered (both texts). -/
set_option linter.unusedVariables false
set_option linter.unusedSimpArgs false
namespace Go.Proofs.Ytinpmdekdfgiiaa
open Go.RowKit

/-- Node k has a level, and what follows it has the next one. -/
def okL (l : List Nd) (L : List Int) (k : Nat) : Bool :=
  !decide (ia L k < 0) && (decide (nz l k < 0) || ia L (nz l k).toNat == ia L k + 1) && (decide (no l k < 0) || ia L (no l k).toNat == ia L k + 1)
def layB (s : Int) (l : List Nd) : Bool := allN l.length (okL l (lv s l))

theorem lay_no {s : Int} {l : List Nd} {k : Nat} (hk : k < l.length) (h : okL l (lv s l) k = false) : false = layB s l := by
  unfold layB
  rw [allN_false.2 ⟨k, hk, h⟩]

set_option maxRecDepth 100000 in
set_option maxHeartbeats 1000000 in
theorem layered_any (i s : Int) (A : Option Addr) (c : Nat) (l : List Nd) (w : World) (hl : l.length ≤ 140737488355328) (hr : RN w A l) :
    Calls Try.prog 19 #[.agg #[.int .i64 i, .int .i64 s, .slice A l.length c]] w fun e w' => e = .returned (.bool (validB i s l && layB s l)) ∧ Kept w w' := by
  have o0 := Own.new w 24 [.int .i64 i, .int .i64 s, .slice A l.length c]
  cases hv : validB i s l
  · go_enter Try.func19, Try.ntmps19
    go_wp2_with fail
    refine (valid_any _ _ _ _ _ _ hl (hr.kept (kept_alloc (kept_refl _) _))).mono ?_
    rintro e w1 ⟨rfl, k1⟩
    rw [hv]
    go_wp2_with fail
    go_ret
    exact ⟨rfl, kept_trans (kept_alloc (kept_refl _) _) k1⟩
  · obtain ⟨hi0, hi1, hln, hs⟩ := valid_start hv
    go_enter Try.func19, Try.ntmps19
    go_wp2_with fail
    refine (valid_any _ _ _ _ _ _ hl (hr.kept (kept_alloc (kept_refl _) _))).mono ?_
    rintro e w1 ⟨rfl, k1⟩
    rw [hv]
    replace o0 := o0.kept k1
    replace k1 := kept_trans (kept_alloc (kept_refl _) _) k1
    have q0 := o0.cell (j := 0) rfl
    have q1 := o0.cell (j := 1) rfl
    have q2 := o0.cell (j := 2) rfl
    go_wp2_with fail
    refine (levels_any _ _ _ _ _ _ (hr.kept k1) hv).mono ?_
    rintro e w2 ⟨g, rfl, hg, ho, k2⟩
    clear q0 q1 q2
    replace o0 := o0.kept k2
    replace k2 := kept_trans k1 k2
    have q2 := o0.cell (j := 2) rfl
    go_wp2_with fail
    clear q2
    go_loopg [14] l.length (fun g' s14 wr => ∃ k : Nat, k ≤ l.length ∧ (∀ j, j < k → okL l (lv s l) j = true) ∧ g' = l.length - k ∧ s14 = .int .i64 k ∧ Kept w wr ∧ Own wr g 3 (ints (lv s l)))
    case atStart => exact ⟨0, by omega, by omega, rfl, rfl, k2, ho⟩
    case round =>
      clear ho o0
      obtain ⟨k, hk, hj, rfl, rfl, k3, ho⟩ := hrel
      have HJ := Lib.hid hj; clear hj
      by_cases hlt : k < l.length
      · obtain ⟨b, off, rfl, hcs⟩ := hr.at_ hlt
        obtain ⟨d0, d1, d2⟩ := hcs k hlt
        clear hcs
        replace d0 := kept_cell k3 d0
        replace d1 := kept_cell k3 d1
        replace d2 := kept_cell k3 d2
        have ok := valid_node hv hlt
        have ck := ho.int (j := k) (by simpa using hlt)
        have low := lv_low hv k
        have hlt3 := ho.lt
        go_upto_region 7 with fail
        clear d0 d1 d2
        have dn := Own.new wr 48 [.int .i64 (nv l k), .int .i64 (nz l k), .int .i64 (no l k)]
        go_cut [59] (fun s59 wx => s59 = .bool (!okL l (lv s l) k) ∧ ∃ n, wx = (wr.alloc (.cells [.int .i64 (nv l k), .int .i64 (nz l k), .int .i64 (no l k)].toArray 48)).drewN n)
        case first =>
          by_cases h1 : ia (lv s l) k < 0
          · go_quiet (fail)
            go_wp2_with fail
            go_meet
            exact ⟨congrArg Value.bool (by unfold okL; grind), _, rfl⟩
          · have c1 : decide (ia (lv s l) k < 0) = false := decide_eq_false h1
            have cs : IntKind.i64.wrap (ia (lv s l) k + 1) = ia (lv s l) k + 1 := IntWalk.i64_in _ (by omega)
            by_cases h2 : 0 ≤ nz l k
            · have c2 : decide (0 ≤ nz l k) = true := decide_eq_true h2
              have cz := ho.int (j := (nz l k).toNat) (by simp; omega)
              by_cases h3 : ia (lv s l) (nz l k).toNat = ia (lv s l) k + 1
              · have c3 : (ia (lv s l) (nz l k).toNat != ia (lv s l) k + 1) = false := by simp [h3]
                have H3 := Lib.hid h3; clear h3
                by_cases h4 : 0 ≤ no l k
                · have c4 : decide (0 ≤ no l k) = true := decide_eq_true h4
                  have co := ho.int (j := (no l k).toNat) (by simp; omega)
                  by_cases h5 : ia (lv s l) (no l k).toNat = ia (lv s l) k + 1
                  · have c5 : (ia (lv s l) (no l k).toNat != ia (lv s l) k + 1) = false := by simp [h5]
                    have H5 := Lib.hid h5; clear h5
                    (go_quiet (fail); go_wp2_with fail; go_meet; exact ⟨congrArg Value.bool (by have h5 := H5.out; have h3 := H3.out; unfold okL; grind), _, rfl⟩)
                  · have c5 : (ia (lv s l) (no l k).toNat != ia (lv s l) k + 1) = true := by simp [h5]
                    (go_quiet (fail); go_wp2_with fail; go_meet; exact ⟨congrArg Value.bool (by have h3 := H3.out; unfold okL; grind), _, rfl⟩)
                · have c4 : decide (0 ≤ no l k) = false := decide_eq_false h4
                  (go_quiet (fail); go_wp2_with fail; go_meet; exact ⟨congrArg Value.bool (by have h3 := H3.out; unfold okL; grind), _, rfl⟩)
              · have c3 : (ia (lv s l) (nz l k).toNat != ia (lv s l) k + 1) = true := by simp [h3]
                (go_quiet (fail); go_wp2_with fail; go_meet; exact ⟨congrArg Value.bool (by unfold okL; grind), _, rfl⟩)
            · have c2 : decide (0 ≤ nz l k) = false := decide_eq_false h2
              by_cases h4 : 0 ≤ no l k
              · have c4 : decide (0 ≤ no l k) = true := decide_eq_true h4
                have co := ho.int (j := (no l k).toNat) (by simp; omega)
                by_cases h5 : ia (lv s l) (no l k).toNat = ia (lv s l) k + 1
                · have c5 : (ia (lv s l) (no l k).toNat != ia (lv s l) k + 1) = false := by simp [h5]
                  have H5 := Lib.hid h5; clear h5
                  (go_quiet (fail); go_wp2_with fail; go_meet; exact ⟨congrArg Value.bool (by have h5 := H5.out; unfold okL; grind), _, rfl⟩)
                · have c5 : (ia (lv s l) (no l k).toNat != ia (lv s l) k + 1) = true := by simp [h5]
                  (go_quiet (fail); go_wp2_with fail; go_meet; exact ⟨congrArg Value.bool (by unfold okL; grind), _, rfl⟩)
              · have c4 : decide (0 ≤ no l k) = false := decide_eq_false h4
                (go_quiet (fail); go_wp2_with fail; go_meet; exact ⟨congrArg Value.bool (by unfold okL; grind), _, rfl⟩)
        case rest =>
          obtain ⟨rfl, n, rfl⟩ := hcut
          cases hok : okL l (lv s l) k
          · go_wp2_with fail
            go_ret
            exact ⟨ret_bool (lay_no hlt hok), below_drewN (kept_alloc k3 _) n⟩
          · go_wp2_with fail
            go_roundg (l.length - (k + 1))
            case rel => exact ⟨k + 1, by omega, fun j h => by rcases Nat.lt_succ_iff_lt_or_eq.1 h with h | rfl; exact HJ.out j h; exact hok, rfl, by go_num, below_drewN (kept_alloc k3 _) n, (ho.alloc _).drewN n⟩
            case measure => omega
      · have : k = l.length := by omega
        subst this
        go_wp2_with fail
        go_ret
        exact ⟨ret_bool (by unfold layB; rw [allN_true.2 HJ.out]; rfl), k3⟩
end Go.Proofs.Ytinpmdekdfgiiaa

/- Branching programs: Layered of the reference. -/
set_option linter.unusedVariables false
set_option linter.unusedSimpArgs false
namespace Go.Proofs.Ytinpmdekdfgiiaa
open Go.RowKit

set_option maxRecDepth 100000 in
set_option maxHeartbeats 1000000 in
theorem rlayered_any (i s : Int) (A : Option Addr) (c : Nat) (l : List Nd) (w : World) (hr : RN w A l) (hv : validB i s l = true) :
    Calls Try.prog 22 #[.agg #[.int .i64 i, .int .i64 s, .slice A l.length c]] w fun e w' => e = .returned (.bool (layB s l)) ∧ Kept w w' := by
  have o1 := Own.new w 24 [.int .i64 i, .int .i64 s, .slice A l.length c]
  obtain ⟨hi0, hi1, hln, hs⟩ := valid_start hv
  go_enter Try.func22, Try.ntmps22
  go_wp2_with fail
  refine (rlevels_any _ _ _ _ _ _ (hr.kept (kept_alloc (kept_refl _) _)) hv).mono ?_
  rintro e w1 ⟨g, rfl, hg, ho, k1⟩
  replace o1 := o1.kept k1
  have gne : w.heap.size < g := by have := hg; simp only [World.size_alloc] at this; omega
  replace k1 := kept_trans (kept_alloc (kept_refl _) _) k1
  go_wp2_with fail
  go_loopg [4] l.length (fun g' s14 wr => ∃ k : Nat, k ≤ l.length ∧ (∀ j, j < k → okL l (lv s l) j = true) ∧ g' = l.length - k ∧ s14 = .int .i64 k ∧ Kept w wr ∧ Own wr w.heap.size 24 [.int .i64 i, .int .i64 s, .slice A l.length c] ∧ Own wr g 3 (ints (lv s l)))
  case atStart => exact ⟨0, by omega, by omega, rfl, rfl, k1, o1, ho⟩
  case round =>
    clear ho o1
    obtain ⟨k, hk, hj, rfl, rfl, k3, o1, ho⟩ := hrel
    have HJ := Lib.hid hj; clear hj
    by_cases hlt : k < l.length
    · obtain ⟨b, off, rfl, hcs⟩ := hr.at_ hlt
      obtain ⟨d0, d1, d2⟩ := hcs k hlt
      clear hcs
      replace d0 := kept_cell k3 d0
      have q2 := o1.cell (j := 2) rfl
      replace d1 := kept_cell k3 d1
      replace d2 := kept_cell k3 d2
      have ok := valid_node hv hlt
      have ck := ho.int (j := k) (by simpa using hlt)
      have low := lv_low hv k
      have hlt3 := ho.lt
      go_upto_region 6 with fail
      clear d0 d1 d2 q2
      have dn := Own.new wr 48 [.int .i64 (nv l k), .int .i64 (nz l k), .int .i64 (no l k)]
      go_cut [59] (fun s59 wx => s59 = .bool (!okL l (lv s l) k) ∧ ∃ n, wx = (wr.alloc (.cells [.int .i64 (nv l k), .int .i64 (nz l k), .int .i64 (no l k)].toArray 48)).drewN n)
      case first =>
        by_cases h1 : ia (lv s l) k < 0
        · go_quiet (fail)
          go_wp2_with fail
          go_meet
          exact ⟨congrArg Value.bool (by unfold okL; grind), _, rfl⟩
        · have c1 : decide (ia (lv s l) k < 0) = false := decide_eq_false h1
          have cs : IntKind.i64.wrap (ia (lv s l) k + 1) = ia (lv s l) k + 1 := IntWalk.i64_in _ (by omega)
          by_cases h2 : 0 ≤ nz l k
          · have c2 : decide (0 ≤ nz l k) = true := decide_eq_true h2
            have cz := ho.int (j := (nz l k).toNat) (by simp; omega)
            by_cases h3 : ia (lv s l) (nz l k).toNat = ia (lv s l) k + 1
            · have c3 : (ia (lv s l) (nz l k).toNat != ia (lv s l) k + 1) = false := by simp [h3]
              have H3 := Lib.hid h3; clear h3
              by_cases h4 : 0 ≤ no l k
              · have c4 : decide (0 ≤ no l k) = true := decide_eq_true h4
                have co := ho.int (j := (no l k).toNat) (by simp; omega)
                by_cases h5 : ia (lv s l) (no l k).toNat = ia (lv s l) k + 1
                · have c5 : (ia (lv s l) (no l k).toNat != ia (lv s l) k + 1) = false := by simp [h5]
                  have H5 := Lib.hid h5; clear h5
                  (go_quiet (fail); go_wp2_with fail; go_meet; exact ⟨congrArg Value.bool (by have h5 := H5.out; have h3 := H3.out; unfold okL; grind), _, rfl⟩)
                · have c5 : (ia (lv s l) (no l k).toNat != ia (lv s l) k + 1) = true := by simp [h5]
                  (go_quiet (fail); go_wp2_with fail; go_meet; exact ⟨congrArg Value.bool (by have h3 := H3.out; unfold okL; grind), _, rfl⟩)
              · have c4 : decide (0 ≤ no l k) = false := decide_eq_false h4
                (go_quiet (fail); go_wp2_with fail; go_meet; exact ⟨congrArg Value.bool (by have h3 := H3.out; unfold okL; grind), _, rfl⟩)
            · have c3 : (ia (lv s l) (nz l k).toNat != ia (lv s l) k + 1) = true := by simp [h3]
              (go_quiet (fail); go_wp2_with fail; go_meet; exact ⟨congrArg Value.bool (by unfold okL; grind), _, rfl⟩)
          · have c2 : decide (0 ≤ nz l k) = false := decide_eq_false h2
            by_cases h4 : 0 ≤ no l k
            · have c4 : decide (0 ≤ no l k) = true := decide_eq_true h4
              have co := ho.int (j := (no l k).toNat) (by simp; omega)
              by_cases h5 : ia (lv s l) (no l k).toNat = ia (lv s l) k + 1
              · have c5 : (ia (lv s l) (no l k).toNat != ia (lv s l) k + 1) = false := by simp [h5]
                have H5 := Lib.hid h5; clear h5
                (go_quiet (fail); go_wp2_with fail; go_meet; exact ⟨congrArg Value.bool (by have h5 := H5.out; unfold okL; grind), _, rfl⟩)
              · have c5 : (ia (lv s l) (no l k).toNat != ia (lv s l) k + 1) = true := by simp [h5]
                (go_quiet (fail); go_wp2_with fail; go_meet; exact ⟨congrArg Value.bool (by unfold okL; grind), _, rfl⟩)
            · have c4 : decide (0 ≤ no l k) = false := decide_eq_false h4
              (go_quiet (fail); go_wp2_with fail; go_meet; exact ⟨congrArg Value.bool (by unfold okL; grind), _, rfl⟩)
      case rest =>
        obtain ⟨rfl, n, rfl⟩ := hcut
        cases hok : okL l (lv s l) k
        · go_wp2_with fail
          go_ret
          exact ⟨ret_bool (lay_no hlt hok), below_drewN (kept_alloc k3 _) n⟩
        · go_wp2_with fail
          go_roundg (l.length - (k + 1))
          case rel => exact ⟨k + 1, by omega, fun j h => by rcases Nat.lt_succ_iff_lt_or_eq.1 h with h | rfl; exact HJ.out j h; exact hok, rfl, by go_num, below_drewN (kept_alloc k3 _) n, (o1.alloc _).drewN n, (ho.alloc _).drewN n⟩
          case measure => omega
    · have : k = l.length := by omega
      subst this
      go_wp2_with fail
      go_ret
      exact ⟨ret_bool (by unfold layB; rw [allN_true.2 HJ.out]), k3⟩
end Go.Proofs.Ytinpmdekdfgiiaa

/- Branching programs: next, run over a function value, Run, Table and their function literals. -/
set_option linter.unusedVariables false
set_option linter.unusedSimpArgs false
namespace Go.Proofs.Ytinpmdekdfgiiaa
open Go.RowKit

/-- One of two. -/
def pk (b : Bool) (z o : Int) : Int := if b then o else z
/-- What follows the node c. -/
def stepN (l : List Nd) (x : Nat → Bool) (c : Int) : Int := pk (x (nv l c.toNat).toNat) (nz l c.toNat) (no l c.toNat)
/-- The end and the nodes of a run of at most f nodes. -/
def runF (l : List Nd) (x : Nat → Bool) : Nat → Int → Int × List Int
  | 0, c => (c, [])
  | f + 1, c => if c < 0 then (c, []) else ((runF l x f (stepN l x c)).1, c :: (runF l x f (stepN l x c)).2)
def runB (s : Int) (l : List Nd) (x : Nat → Bool) : Bool := (runF l x l.length s).1 == -2
def wayB (s : Int) (l : List Nd) (x : Nat → Bool) : List Int := (runF l x l.length s).2

theorem runF_neg (l : List Nd) (x : Nat → Bool) (f : Nat) {c : Int} (h : c < 0) : runF l x f c = (c, []) := by
  cases f with
  | zero => rfl
  | succ f => simp [runF, h]

/-- A function value that only reads and gives x. -/
structure Asks (w : World) (fv : Value) (dom : Int) (x : Nat → Bool) : Prop where
  gives : ∃ f cap, fv = .func (.func f) #[] cap ∧ (∀ (args : Array Value) (w : World), (callFunc f args).run Try.prog w = .ok (.enter f args) w) ∧ ∀ (i : Int) (w' : World), 0 ≤ i → i < dom → Kept w w' → Calls Try.prog f (#[.int .i64 i] ++ cap) w' fun e w'' => e = .returned (.bool (x i.toNat)) ∧ w' = w''

set_option maxHeartbeats 400000 in
theorem next_any (v z o : Int) (b : Bool) (w : World) :
    Calls Try.prog 91 #[.agg #[.int .i64 v, .int .i64 z, .int .i64 o], .bool b] w fun e w' => e = .returned (.int .i64 (pk b z o)) ∧ w.alloc (.cells #[.int .i64 v, .int .i64 z, .int .i64 o] 48) = w' := by
  cases b
  all_goals
    go_enter Try.func91, Try.ntmps91
    go_wp2
    go_ret
    exact ⟨rfl, rfl⟩

set_option maxHeartbeats 400000 in
theorem runlit_any (w : World) (g b off n c : Nat) (xs : List Bool) (hx : ∀ j, j < xs.length → w.cell? ⟨b, off + j, none⟩ = some (.bool (ba xs j))) (hn : xs.length = n) (hm : n ≤ 140737488355328) (i : Int) (h0 : 0 ≤ i) (h1 : i < n)
    (hg : w.cell? ⟨g, 0, none⟩ = some (.slice (some ⟨b, off, none⟩) n c)) :
    Calls Try.prog 69 #[.int .i64 i, .pointer (some ⟨g, 0, none⟩)] w fun e w' => e = .returned (.bool (ba xs i.toNat)) ∧ w = w' := by
  have hc := hx i.toNat (by omega)
  clear hx
  go_enter Try.func69, Try.ntmps69
  go_wp2
  go_ret
  exact ⟨rfl, rfl⟩

theorem and_one {n : Nat} (h : n < 2 ^ 62) : bits .and .i64 (n : Int) 1 = ((n % 2 : Nat) : Int) := by
  have := bits_mask .i64 62 (by decide) (fun m h0 h1 => IntWalk.i64_in m (by omega)) 1 (by omega) (n : Int) (by omega) (by exact_mod_cast h)
  simpa using this
theorem bit_and {a : Int} (ha : 0 ≤ a) (h : a < 1000000) (k : Nat) : (bits BinOp.and .i64 (a / 2 ^ k) 1 == 1) = a.toNat.testBit k := by
  obtain ⟨n, rfl⟩ := Int.eq_ofNat_of_zero_le ha
  rw [show ((n : Int) / 2 ^ k) = ((n / 2 ^ k : Nat) : Int) from by simp]
  have h1 : n / 2 ^ k ≤ n := Nat.div_le_self _ _
  rw [and_one (by omega), Int.toNat_natCast, Nat.testBit, Nat.shiftRight_eq_div_pow]
  rcases Nat.mod_two_eq_zero_or_one (n / 2 ^ k) with e | e <;> simp [e, Nat.and_comm]

set_option maxHeartbeats 400000 in
theorem tablelit_any (w : World) (g : Nat) (a : Int) (ha : 0 ≤ a) (ha1 : a < 1000000) (i : Int) (h0 : 0 ≤ i) (h1 : i < 16) (hg : w.cell? ⟨g, 0, none⟩ = some (.int .i64 a)) :
    Calls Try.prog 70 #[.int .i64 i, .pointer (some ⟨g, 0, none⟩)] w fun e w' => e = .returned (.bool (a.toNat.testBit i.toNat)) ∧ w = w' := by
  go_enter Try.func70, Try.ntmps70
  go_wp2
  go_ret
  refine ⟨ret_bool ?_, rfl⟩
  exact bit_and ha ha1 _

theorem step_ok {i s : Int} {l : List Nd} (x : Nat → Bool) (h : validB i s l = true) {c : Int} (h0 : 0 ≤ c) (h1 : c < l.length) :
    (stepN l x c < 0 → stepN l x c = -1 ∨ stepN l x c = -2) ∧ stepN l x c < l.length ∧ (0 ≤ stepN l x c → c < stepN l x c) := by
  have := valid_node h (k := c.toNat) (by omega)
  unfold stepN pk
  split <;> omega

set_option maxRecDepth 100000 in
set_option maxHeartbeats 1000000 in
theorem run_any (i s : Int) (A : Option Addr) (c : Nat) (l : List Nd) (fv : Value) (x : Nat → Bool) (w : World) (hr : RN w A l) (hv : validB i s l = true) (hx : Asks w fv i x) :
    Calls Try.prog 68 #[.agg #[.int .i64 i, .int .i64 s, .slice A l.length c], fv] w fun e w' => ∃ v, e = .returned (.tuple #[.bool (runB s l x), v]) ∧ w'.ownsRow w.heap.size 3 1 v (wayB s l x).length (ints (wayB s l x)) ∧ Kept w w' := by
  obtain ⟨hi0, hi1, hln, hs⟩ := valid_start hv
  obtain ⟨f, cap, rfl, hE, hf⟩ := hx.gives
  have HF := Lib.hid hf; clear hf
  have o0 := Own.new w 24 [.int .i64 i, .int .i64 s, .slice A l.length c]
  go_enter Try.func68, Try.ntmps68
  go_wp2_with fail
  go_loopg [6, 7] l.length (fun g s6 s7 wr => ∃ (p : List Int) (cu : Int), (cu < 0 → cu = -1 ∨ cu = -2) ∧ cu < l.length ∧ (0 ≤ cu → l.length ≤ g + cu.toNat) ∧ runF l x l.length s = ((runF l x g cu).1, p ++ (runF l x g cu).2) ∧ p.length + g = l.length ∧ s7 = .int .i64 cu ∧ wr.ownsRow (w.heap.size + 1) 3 1 s6 p.length (ints p) ∧ Kept w wr ∧ Own wr w.heap.size 24 [.int .i64 i, .int .i64 s, .slice A l.length c])
  case atStart => exact ⟨[], s, by omega, by omega, by omega, by simp, by simp, rfl, World.ownsRow_nil _ _ _ _, kept_alloc (kept_refl _) _, o0⟩
  case round =>
    clear o0
    obtain ⟨p, cu, hc1, hc2, hc3, hrun, hpl, rfl, hrow, k1, o0⟩ := hrel
    have HR := Lib.hid hrun; clear hrun
    by_cases hcu : 0 ≤ cu
    · obtain ⟨b, off, rfl, hcs⟩ := hr.at_ (k := cu.toNat) (by omega)
      obtain ⟨d0, d1, d2⟩ := hcs cu.toNat (by omega)
      clear hcs
      have ok := valid_node hv (k := cu.toNat) (by omega)
      have sz : w.heap.size + 1 ≤ wr.heap.size := o0.lt
      go_wp2_with (at_builtin; refine app_int (w.heap.size + 1) rfl (.tmp 12) (.tmp 14) 36 3 rfl Try.underlying36 info3 u6 p.length p cu rfl rfl hrow sz (by omega) ?_; intro v3 w3 hr3 hg3 hat3)
      have k3 : Kept w w3 := kept_grown k1 hrow (Nat.le_succ _) hg3
      have o3 := o0.grown hg3 (by intro h; have := (hrow.lt _ h.symm).1; omega)
      replace d0 := kept_cell k3 d0
      replace d1 := kept_cell k3 d1
      replace d2 := kept_cell k3 d2
      have e1 := o3.cell (j := 1) rfl
      have e2 := o3.cell (j := 2) rfl
      clear hrow hg3 hat3 o0 k1 sz
      have hcall := (HF.out (nv l cu.toNat) w3.drew (by omega) (by omega) (kept_drew k3)).mono (R' := fun e w' => e = .returned (.bool (x (nv l cu.toNat).toNat)) ∧ w' = w3.drew) (fun e w' h => ⟨h.1, h.2.symm⟩)
      have HC := Lib.hid hcall; clear hcall
      have hEn := fun W => hE (#[.int .i64 (nv l cu.toNat)] ++ cap) W
      have e4 : 0 ≤ cu := hcu
      have e5 : cu < (l.length : Int) := by omega
      refine wp_region_still_tail 13 (by kernel_rfl) (by kernel_rfl) ?_
      simp only [List.take_succ_cons, List.take_zero, List.drop_succ_cons, List.drop_zero]
      repeat (first | (still_call HC.out) | still_step)
      try refine wpStill_nil ?_
      change wpList _ _ _ _ _ w3.drew
      go_wp2_with (go_at_call 91; refine (next_any _ _ _ _ _).mono ?_; rintro e w' ⟨rfl, rfl⟩)
      have st := step_ok x hv hcu e5
      obtain ⟨f', rfl⟩ : ∃ f', gk = f' + 1 := ⟨gk - 1, by omega⟩
      have hst : runF l x (f' + 1) cu = ((runF l x f' (stepN l x cu)).1, cu :: (runF l x f' (stepN l x cu)).2) := by
        rw [runF, if_neg (by omega)]
      have hrun := HR.out
      rw [hst] at hrun
      have HR2 := Lib.hid hrun
      clear hrun hst HR
      go_roundg f'
      case rel => exact ⟨p ++ [cu], stepN l x cu, st.1, st.2.1, by omega, by rw [HR2.out]; simp, by simp; omega, rfl, by simpa using (row_alloc hr3 _).drew, kept_drew (kept_alloc k3 _), (o3.alloc _).drew⟩
      case measure => omega
    · have hneg : cu < 0 := by omega
      have hd : decide (0 ≤ cu) = false := decide_eq_false (by omega)
      have hrun := HR.out
      rw [runF_neg _ _ _ hneg] at hrun
      simp only [List.append_nil] at hrun
      have HR2 := Lib.hid hrun
      clear hrun HR
      have hb : runB s l x = (cu == -2) := by unfold runB; rw [HR2.out]
      have hw : wayB s l x = p := by unfold wayB; rw [HR2.out]
      have HB := Lib.hid hb; clear hb
      have HW := Lib.hid hw; clear hw
      go_wp2_with fail
      go_ret2
      refine ⟨u6, ?_, ?_, k1⟩
      · rw [HB.out]; rfl
      · rw [HW.out]; exact hrow.mono (Nat.le_succ _)
/-- What Run answers. -/
def xs (x : List Bool) (k : Nat) : Bool := ba x k

/-- The end of Run. -/
def RunPost (i s : Int) (n : Nat) (l : List Nd) (x : List Bool) (w : World) (e : Ending) (w' : World) : Prop :=
  ∃ (v : Value) (p : List Int),
    e = .returned (.tuple #[.bool (validB i s l && (decide ((n : Int) = i) && runB s l (xs x))), v, .int .i64 (if validB i s l then if (n : Int) = i then 0 else 2 else 1)]) ∧
    w'.ownsRow w.heap.size 3 1 v p.length (ints p) ∧ p = (if validB i s l = true ∧ (n : Int) = i then wayB s l (xs x) else []) ∧ Kept w w'

theorem asks_run {w : World} {g n c : Nat} {X : Option Addr} {x : List Bool} (hX : Rd w X (bools x)) (hn : x.length = n) (hm : n ≤ 140737488355328)
    (hg : w.cell? ⟨g, 0, none⟩ = some (.slice X n c)) : Asks w (.func (.func 69) #[] #[.pointer (some ⟨g, 0, none⟩)]) n (xs x) :=
  ⟨69, _, rfl, enters_of Try.func69 (by kernel_rfl) rfl, fun i w' h0 h1 k => by
    obtain ⟨b, off, rfl, hx⟩ := hX.bool (k := 0) (by omega)
    exact runlit_any w' g b off n c x (fun j hj => kept_cell k (hx j hj)) hn hm i h0 h1 (kept_cell k hg)⟩

set_option maxRecDepth 100000 in
set_option maxHeartbeats 1000000 in
theorem Run_any (i s : Int) (A : Option Addr) (c : Nat) (l : List Nd) (X : Option Addr) (n cx : Nat) (x : List Bool) (w : World) (hl : l.length ≤ 140737488355328) (hr : RN w A l) (hX : Rd w X (bools x)) (hn : x.length = n) (hm : n ≤ 140737488355328) :
    Calls Try.prog 26 #[.agg #[.int .i64 i, .int .i64 s, .slice A l.length c], .slice X n cx] w (RunPost i s n l x w) := by
  have o0 := Own.new w 24 [.int .i64 i, .int .i64 s, .slice A l.length c]
  have k0 : Kept w ((w.alloc (.cells #[.int .i64 i, .int .i64 s, .slice A l.length c] 24)).alloc (.cells #[.slice X n cx] 29)) := kept_alloc (kept_alloc (kept_refl _) _) _
  have o1 : Own ((w.alloc (.cells #[.int .i64 i, .int .i64 s, .slice A l.length c] 24)).alloc (.cells #[.slice X n cx] 29)) (w.heap.size + 1) 29 [.slice X n cx] := by
    simpa using Own.new (w.alloc (.cells #[.int .i64 i, .int .i64 s, .slice A l.length c] 24)) 29 [.slice X n cx]
  cases hv : validB i s l
  · go_enter Try.func26, Try.ntmps26
    go_wp2_with fail
    refine (valid_any _ _ _ _ _ _ hl (hr.kept k0)).mono ?_
    rintro e w1 ⟨rfl, k1⟩
    rw [hv]
    go_wp2_with fail
    go_ret3
    exact ⟨_, [], by rw [hv]; rfl, World.ownsRow_nil _ _ _ _, by simp [hv], kept_trans k0 k1⟩
  · obtain ⟨hi0, hi1, hln, hs⟩ := valid_start hv
    by_cases hni : (n : Int) = i
    · have b1 : ((n : Int) == i) = true := by simp [hni]
      have b2 : ((n : Int) != i) = false := by simp [hni]
      have HN := Lib.hid hni; clear hni
      go_enter Try.func26, Try.ntmps26
      go_wp2_with fail
      refine (valid_any _ _ _ _ _ _ hl (hr.kept k0)).mono ?_
      rintro e w1 ⟨rfl, k1⟩
      rw [hv]
      have p0 := (o0.alloc (.cells #[.slice X n cx] 29)).kept k1
      have p1 := o1.kept k1
      have k2 := kept_trans k0 k1
      have q0 := p0.cell (j := 0) rfl
      have q1 := p0.cell (j := 1) rfl
      have q2 := p0.cell (j := 2) rfl
      have q3 := p1.cell (j := 0) rfl
      clear o0 o1 k0 k1
      go_upto_region 5 with fail
      have hA := asks_run (hX.kept k2) hn hm q3
      rw [HN.out] at hA
      have hr2 := hr.kept k2
      go_wp2_with (go_at_call 68; refine (run_any _ _ _ _ _ _ _ _ hr2 hv hA).mono ?_; rintro e w4 ⟨v4, rfl, hrow, k4⟩)
      go_ret3
      exact ⟨v4, wayB s l (xs x), by rw [hv]; simp [HN.out], hrow.mono k2.size, by simp [hv, HN.out], kept_trans k2 k4⟩
    · have b1 : ((n : Int) == i) = false := by simp [hni]
      have b2 : ((n : Int) != i) = true := by simp [hni]
      go_enter Try.func26, Try.ntmps26
      go_wp2_with fail
      refine (valid_any _ _ _ _ _ _ hl (hr.kept k0)).mono ?_
      rintro e w1 ⟨rfl, k1⟩
      rw [hv]
      have p0 := (o0.alloc (.cells #[.slice X n cx] 29)).kept k1
      have p1 := o1.kept k1
      have k2 := kept_trans k0 k1
      have q0 := p0.cell (j := 0) rfl
      have q1 := p0.cell (j := 1) rfl
      have q2 := p0.cell (j := 2) rfl
      have q3 := p1.cell (j := 0) rfl
      clear o0 o1 k0 k1
      go_wp2_with fail
      go_ret3
      exact ⟨_, [], by rw [hv]; simp [hni], World.ownsRow_nil _ _ _ _, by simp [hni], k2⟩
end Go.Proofs.Ytinpmdekdfgiiaa

/- Branching programs: Run of the reference. -/
set_option linter.unusedVariables false
set_option linter.unusedSimpArgs false
namespace Go.Proofs.Ytinpmdekdfgiiaa
open Go.RowKit

def RRunPost (s : Int) (l : List Nd) (x : List Bool) (w : World) (e : Ending) (w' : World) : Prop :=
  ∃ v : Value, e = .returned (.tuple #[.bool (runB s l (xs x)), v]) ∧ w'.ownsRow w.heap.size 3 1 v (wayB s l (xs x)).length (ints (wayB s l (xs x))) ∧ Kept w w'

set_option maxRecDepth 100000 in
set_option maxHeartbeats 1000000 in
theorem rrun_any (i s : Int) (A : Option Addr) (c : Nat) (l : List Nd) (X : Option Addr) (n cx : Nat) (x : List Bool) (w : World) (hr : RN w A l) (hv : validB i s l = true) (hX : Rd w X (bools x)) (hn : x.length = n) (hni : (n : Int) = i) :
    Calls Try.prog 28 #[.agg #[.int .i64 i, .int .i64 s, .slice A l.length c], .slice X n cx] w (RRunPost s l x w) := by
  obtain ⟨hi0, hi1, hln, hs⟩ := valid_start hv
  have hn16 : n ≤ 16 := by omega
  have HN := Lib.hid hni; clear hni
  have o0 := Own.new w 24 [.int .i64 i, .int .i64 s, .slice A l.length c]
  go_enter Try.func28, Try.ntmps28
  go_wp2_with fail
  go_loopg [6, 7] l.length (fun g s6 s7 wr => ∃ (p : List Int) (cu : Int), (cu < 0 → cu = -1 ∨ cu = -2) ∧ cu < l.length ∧ (0 ≤ cu → l.length ≤ g + cu.toNat) ∧ runF l (xs x) l.length s = ((runF l (xs x) g cu).1, p ++ (runF l (xs x) g cu).2) ∧ p.length + g = l.length ∧ s7 = .int .i64 cu ∧ wr.ownsRow (w.heap.size + 1) 3 1 s6 p.length (ints p) ∧ Kept w wr ∧ Own wr w.heap.size 24 [.int .i64 i, .int .i64 s, .slice A l.length c])
  case atStart => exact ⟨[], s, by omega, by omega, by omega, by simp, by simp, rfl, World.ownsRow_nil _ _ _ _, kept_alloc (kept_refl _) _, o0⟩
  case round =>
    clear o0
    obtain ⟨p, cu, hc1, hc2, hc3, hrun, hpl, rfl, hrow, k1, o0⟩ := hrel
    have HR := Lib.hid hrun; clear hrun
    by_cases hcu : 0 ≤ cu
    · obtain ⟨b, off, rfl, hcs⟩ := hr.at_ (k := cu.toNat) (by omega)
      obtain ⟨d0, d1, d2⟩ := hcs cu.toNat (by omega)
      clear hcs
      have ok := valid_node hv (k := cu.toNat) (by omega)
      obtain ⟨bx, offx, rfl, hx⟩ := hX.bool (k := 0) (by have := HN.out; omega)
      have x0 := hx (nv l cu.toNat).toNat (by have := HN.out; omega)
      clear hx
      have hvn : nv l cu.toNat < n := by have := HN.out; omega
      have sz : w.heap.size + 1 ≤ wr.heap.size := o0.lt
      go_wp2_with (at_builtin; refine app_int (w.heap.size + 1) rfl (.tmp 12) (.tmp 14) 36 3 rfl Try.underlying36 info3 u6 p.length p cu rfl rfl hrow sz (by omega) ?_; intro v3 w3 hr3 hg3 hat3; have k3 : Kept w w3 := kept_grown k1 hrow (Nat.le_succ _) hg3; have o3 := o0.grown hg3 (by intro h; have := (hrow.lt _ h.symm).1; omega); replace d0 := kept_cell k3 d0; replace d1 := kept_cell k3 d1; replace d2 := kept_cell k3 d2; replace x0 := kept_cell k3 x0; have e1 := o3.cell (j := 1) rfl; have e2 := o3.cell (j := 2) rfl; clear hrow hg3 hat3 o0 k1 sz)
      all_goals
        have st := step_ok (xs x) hv hcu hc2
        obtain ⟨f', rfl⟩ : ∃ f', gk = f' + 1 := ⟨gk - 1, by omega⟩
        have hst : runF l (xs x) (f' + 1) cu = ((runF l (xs x) f' (stepN l (xs x) cu)).1, cu :: (runF l (xs x) f' (stepN l (xs x) cu)).2) := by
          rw [runF, if_neg (by omega)]
        have hrun := HR.out
        rw [hst] at hrun
        have HR2 := Lib.hid hrun
        clear hrun hst HR
        go_roundg f'
        case rel => exact ⟨p ++ [cu], stepN l (xs x) cu, st.1, st.2.1, by omega, by rw [HR2.out]; simp, by simp; omega, congrArg (Value.int .i64) (by unfold stepN pk xs; simp [*]), by simpa using hr3, k3, o3⟩
        case measure => omega
    · have hneg : cu < 0 := by omega
      have hd : decide (0 ≤ cu) = false := decide_eq_false (by omega)
      have hrun := HR.out
      rw [runF_neg _ _ _ hneg] at hrun
      simp only [List.append_nil] at hrun
      have HR2 := Lib.hid hrun
      clear hrun HR
      have hb : runB s l (xs x) = (cu == -2) := by unfold runB; rw [HR2.out]
      have hw : wayB s l (xs x) = p := by unfold wayB; rw [HR2.out]
      have HB := Lib.hid hb; clear hb
      have HW := Lib.hid hw; clear hw
      go_wp2_with fail
      go_ret2
      refine ⟨u6, ?_, ?_, k1⟩
      · rw [HB.out]; rfl
      · rw [HW.out]; exact hrow.mono (Nat.le_succ _)
end Go.Proofs.Ytinpmdekdfgiiaa

/- Lists compared (SameBools, SameInts), the inputs of an index (Point), the tables (Truth, Table). -/
set_option linter.unusedVariables false
set_option linter.unusedSimpArgs false
namespace Go.Proofs.Ytinpmdekdfgiiaa
open Go.RowKit

theorem info4 : (Try.prog.info? 4).map (fun i => (i.zero, i.size, i.bytes)) = some (some (.bool false), 1, 1) := by kernel_rfl

theorem make_bools (n : Nat) (hn : n ≤ 35184372088832) (W : World) :
    (Instr.makeSlice 29 (.int .i64 (n : Int)) (.int .i64 (n : Int))).run Try.prog W = .ok (.slice (some ⟨W.heap.size, 0, none⟩) n n) (W.alloc (.cells (bools (List.replicate n false)).toArray 4)) := by
  have h := run_make_row' (P := Try.prog) 29 4 (.bool false) 1 Try.underlying29 info4 rfl .i64 .i64 n (by omega) (by omega) W
  rw [made_list] at h
  simpa [bools] using h

theorem list_eq_ba {x y : List Bool} (h : x.length = y.length) (he : ∀ j, j < x.length → ba x j = ba y j) : x = y := by
  apply List.ext_getElem h
  intro j h1 h2
  have := he j h1
  simpa [ba, List.getD_eq_getElem?_getD, h1, h2] using this
theorem list_eq_ia {x y : List Int} (h : x.length = y.length) (he : ∀ j, j < x.length → ia x j = ia y j) : x = y := by
  apply List.ext_getElem h
  intro j h1 h2
  have := he j h1
  simpa [ia, List.getD_eq_getElem?_getD, h1, h2] using this

set_option maxRecDepth 100000 in
set_option maxHeartbeats 1000000 in
theorem samebools_any (A B : Option Addr) (n m c d : Nat) (x y : List Bool) (w : World) (hA : Rd w A (bools x)) (hB : Rd w B (bools y)) (hn : n = x.length) (hm : m = y.length) (hn1 : n ≤ 140737488355328) :
    Calls Try.prog 30 #[.slice A n c, .slice B m d] w fun e w' => e = .returned (.bool (decide (x = y))) ∧ Kept w w' := by
  subst hn
  subst hm
  by_cases hl : x.length = y.length
  · have b1 : (x.length == y.length) = true := by simp [hl]
    have b2 : (x.length != y.length) = false := by simp [hl]
    have HL := Lib.hid hl; clear hl
    go_enter Try.func30, Try.ntmps30
    go_wp2_with fail
    go_loopg [5] x.length (fun g s5 wr => ∃ k : Nat, k ≤ x.length ∧ (∀ j, j < k → ba x j = ba y j) ∧ g = x.length - k ∧ s5 = .int .i64 k ∧ Kept w wr)
    case atStart => exact ⟨0, by omega, by omega, rfl, rfl, kept_refl _⟩
    case round =>
      obtain ⟨k, hk, hj, rfl, rfl, k1⟩ := hrel
      have HJ := Lib.hid hj; clear hj
      by_cases hlt : k < x.length
      · obtain ⟨ba1, of1, rfl, h1⟩ := hA.bool hlt
        have a0 := kept_cell k1 (h1 k hlt)
        have hlt2 : k < y.length := by have := HL.out; omega
        obtain ⟨ba2, of2, rfl, h2⟩ := hB.bool hlt2
        have a1 := kept_cell k1 (h2 k hlt2)
        clear h1 h2
        by_cases he : ba x k = ba y k
        · have e1 : (ba x k == ba y k) = true := by simp [he]
          have e2 : (ba x k != ba y k) = false := by simp [he]
          have HE := Lib.hid he; clear he
          go_wp2_with fail
          go_quiet (fail)
          go_wp2_with fail
          go_roundg (x.length - (k + 1))
          case rel => exact ⟨k + 1, by omega, fun j h => by rcases Nat.lt_succ_iff_lt_or_eq.1 h with h | rfl; exact HJ.out j h; exact HE.out, rfl, by go_num, below_drewN k1 _⟩
          case measure => omega
        · have e1 : (ba x k == ba y k) = false := by simp [he]
          have e2 : (ba x k != ba y k) = true := by simp [he]
          have HE := Lib.hid he; clear he
          go_wp2_with fail
          go_quiet (fail)
          go_wp2_with fail
          go_ret
          exact ⟨ret_bool (by symm; apply decide_eq_false; intro h; subst h; exact HE.out rfl), below_drewN k1 _⟩
      · have : k = x.length := by omega
        subst this
        go_wp2_with fail
        go_ret
        exact ⟨ret_bool (by symm; exact decide_eq_true (list_eq_ba HL.out HJ.out)), k1⟩
  · have b1 : (x.length == y.length) = false := by simp [hl]
    have b2 : (x.length != y.length) = true := by simp [hl]
    have HL := Lib.hid hl; clear hl
    go_enter Try.func30, Try.ntmps30
    go_wp2_with fail
    go_ret
    exact ⟨ret_bool (by symm; apply decide_eq_false; intro h; subst h; exact HL.out rfl), kept_refl _⟩

set_option maxRecDepth 100000 in
set_option maxHeartbeats 1000000 in
theorem sameints_any (A B : Option Addr) (n m c d : Nat) (x y : List Int) (w : World) (hA : Rd w A (ints x)) (hB : Rd w B (ints y)) (hn : n = x.length) (hm : m = y.length) (hn1 : n ≤ 140737488355328) :
    Calls Try.prog 29 #[.slice A n c, .slice B m d] w fun e w' => e = .returned (.bool (decide (x = y))) ∧ Kept w w' := by
  subst hn
  subst hm
  by_cases hl : x.length = y.length
  · have b1 : (x.length == y.length) = true := by simp [hl]
    have b2 : (x.length != y.length) = false := by simp [hl]
    have HL := Lib.hid hl; clear hl
    go_enter Try.func29, Try.ntmps29
    go_wp2_with fail
    go_loopg [5] x.length (fun g s5 wr => ∃ k : Nat, k ≤ x.length ∧ (∀ j, j < k → ia x j = ia y j) ∧ g = x.length - k ∧ s5 = .int .i64 k ∧ Kept w wr)
    case atStart => exact ⟨0, by omega, by omega, rfl, rfl, kept_refl _⟩
    case round =>
      obtain ⟨k, hk, hj, rfl, rfl, k1⟩ := hrel
      have HJ := Lib.hid hj; clear hj
      by_cases hlt : k < x.length
      · obtain ⟨ba1, of1, rfl, h1⟩ := hA.int hlt
        have a0 := kept_cell k1 (h1 k hlt)
        have hlt2 : k < y.length := by have := HL.out; omega
        obtain ⟨ba2, of2, rfl, h2⟩ := hB.int hlt2
        have a1 := kept_cell k1 (h2 k hlt2)
        clear h1 h2
        by_cases he : ia x k = ia y k
        · have e1 : (ia x k == ia y k) = true := by simp [he]
          have e2 : (ia x k != ia y k) = false := by simp [he]
          have HE := Lib.hid he; clear he
          go_wp2_with fail
          go_quiet (fail)
          go_wp2_with fail
          go_roundg (x.length - (k + 1))
          case rel => exact ⟨k + 1, by omega, fun j h => by rcases Nat.lt_succ_iff_lt_or_eq.1 h with h | rfl; exact HJ.out j h; exact HE.out, rfl, by go_num, below_drewN k1 _⟩
          case measure => omega
        · have e1 : (ia x k == ia y k) = false := by simp [he]
          have e2 : (ia x k != ia y k) = true := by simp [he]
          have HE := Lib.hid he; clear he
          go_wp2_with fail
          go_quiet (fail)
          go_wp2_with fail
          go_ret
          exact ⟨ret_bool (by symm; apply decide_eq_false; intro h; subst h; exact HE.out rfl), below_drewN k1 _⟩
      · have : k = x.length := by omega
        subst this
        go_wp2_with fail
        go_ret
        exact ⟨ret_bool (by symm; exact decide_eq_true (list_eq_ia HL.out HJ.out)), k1⟩
  · have b1 : (x.length == y.length) = false := by simp [hl]
    have b2 : (x.length != y.length) = true := by simp [hl]
    have HL := Lib.hid hl; clear hl
    go_enter Try.func29, Try.ntmps29
    go_wp2_with fail
    go_ret
    exact ⟨ret_bool (by symm; apply decide_eq_false; intro h; subst h; exact HL.out rfl), kept_refl _⟩

/-- The inputs of index a: the first k of n. -/
def ptTo (n a k : Nat) : List Bool := (List.range k).map a.testBit ++ List.replicate (n - k) false
def ptB (n a : Nat) : List Bool := (List.range n).map a.testBit
@[simp] theorem ptB_length (n a : Nat) : (ptB n a).length = n := by simp [ptB]
@[simp] theorem ptTo_length {n a k : Nat} (h : k ≤ n) : (ptTo n a k).length = n := by simp [ptTo]; omega
theorem ptTo_set {n a k : Nat} (h : k < n) : (ptTo n a k).set k (a.testBit k) = ptTo n a (k + 1) := by
  unfold ptTo
  rw [show n - k = (n - (k + 1)) + 1 by omega, List.replicate_succ, List.set_append_right _ _ (by simp)]
  simp [List.range_succ]
theorem ptTo_all (n a : Nat) : ptTo n a n = ptB n a := by simp [ptTo, ptB]
theorem ptB_ba {n a k : Nat} (h : k < n) : ba (ptB n a) k = a.testBit k := by simp [ptB, ba, List.getD_eq_getElem?_getD, h]

set_option maxRecDepth 100000 in
set_option maxHeartbeats 1000000 in
theorem point_any (n a : Nat) (w : World) (hn : n ≤ 16) (ha : a < 1000000) :
    Calls Try.prog 38 #[.int .i64 n, .int .i64 a] w fun e w' => e = .returned (.slice (some ⟨w.heap.size, 0, none⟩) n n) ∧ Own w' w.heap.size 4 (bools (ptB n a)) ∧ Kept w w' := by
  have hmk := make_bools n (by omega)
  go_enter Try.func38, Try.ntmps38
  go_wp2_with fail
  clear hmk
  go_loopg [6] n (fun g s6 wr => ∃ k : Nat, k ≤ n ∧ g = n - k ∧ s6 = .int .i64 k ∧ Kept w wr ∧ Own wr w.heap.size 4 (bools (ptTo n a k)))
  case atStart => exact ⟨0, by omega, rfl, rfl, kept_alloc (kept_refl _) _, by simpa [ptTo] using Own.new w 4 (bools (List.replicate n false))⟩
  case round =>
    obtain ⟨k, hk, rfl, rfl, k1, ho⟩ := hrel
    by_cases hlt : k < n
    · have hc := ho.bool (j := k) (by rw [ptTo_length (by omega)]; exact hlt)
      have hf := ho.frozen k
      go_wp2_with fail
      have hb := bit_and (a := (a : Int)) (by omega) (by omega) k
      rw [Int.toNat_natCast] at hb
      go_roundg (n - (k + 1))
      case rel => exact ⟨k + 1, by omega, rfl, by go_num, kept_set k1 (Nat.le_refl _) _, by rw [← ptTo_set hlt, ← hb]; exact ho.setBool _ _⟩
      case measure => omega
    · have : k = n := by omega
      subst this
      rw [ptTo_all] at ho
      go_wp2_with fail
      go_ret
      exact ⟨rfl, ho, k1⟩
end Go.Proofs.Ytinpmdekdfgiiaa

/- The tables (Truth, Table). -/
set_option linter.unusedVariables false
set_option linter.unusedSimpArgs false
namespace Go.Proofs.Ytinpmdekdfgiiaa
open Go.RowKit

theorem runF_congr {i s0 : Int} {l : List Nd} (hv : validB i s0 l = true) {x y : Nat → Bool} (h : ∀ k : Nat, (k : Int) < i → x k = y k) : ∀ (f : Nat) (c : Int), c < l.length → runF l x f c = runF l y f c := by
  intro f
  induction f with
  | zero => intro c _; rfl
  | succ f ih =>
    intro c hc
    unfold runF
    split
    · rfl
    · have ok := valid_node hv (k := c.toNat) (by omega)
      have e : stepN l x c = stepN l y c := by unfold stepN; rw [h _ (by omega)]
      have st := step_ok y hv (by omega) hc
      rw [e, ih _ st.2.1]
theorem runB_pt {i s : Int} {l : List Nd} (hv : validB i s l = true) {n a : Nat} (hn : (n : Int) = i) : runB s l (xs (ptB n a)) = runB s l a.testBit := by
  obtain ⟨_, _, _, hs⟩ := valid_start hv
  unfold runB
  rw [runF_congr hv (x := xs (ptB n a)) (y := a.testBit) (fun k hk => ptB_ba (by omega)) _ _ (by omega)]
/-- The table. -/
def tabTo (s : Int) (l : List Nd) (N k : Nat) : List Bool := (List.range k).map (fun a => runB s l a.testBit) ++ List.replicate (N - k) false
def tabB (n : Nat) (s : Int) (l : List Nd) : List Bool := (List.range (2 ^ n)).map fun a => runB s l a.testBit
@[simp] theorem tabB_length (n : Nat) (s : Int) (l : List Nd) : (tabB n s l).length = 2 ^ n := by simp [tabB]
@[simp] theorem tabTo_length {s : Int} {l : List Nd} {N k : Nat} (h : k ≤ N) : (tabTo s l N k).length = N := by simp [tabTo]; omega
theorem tabTo_set {s : Int} {l : List Nd} {N k : Nat} (h : k < N) : (tabTo s l N k).set k (runB s l k.testBit) = tabTo s l N (k + 1) := by
  unfold tabTo
  rw [show N - k = (N - (k + 1)) + 1 by omega, List.replicate_succ, List.set_append_right _ _ (by simp)]
  simp [List.range_succ]
theorem tabTo_all (n : Nat) (s : Int) (l : List Nd) : tabTo s l (2 ^ n) (2 ^ n) = tabB n s l := by simp [tabTo, tabB]

theorem shl_wrap (n : Nat) (hn : n ≤ 16) : wrap64 (2 ^ n) = ((2 ^ n : Nat) : Int) := by
  have h1 : 2 ^ n ≤ 2 ^ 16 := Nat.pow_le_pow_right (by omega) hn
  have h2 : ((2 : Int) ^ n) = ((2 ^ n : Nat) : Int) := by simp
  rw [h2]
  generalize 2 ^ n = m at *
  unfold wrap64
  omega
theorem make_tab (n : Nat) (hn : n ≤ 16) (W : World) :
    (Instr.makeSlice 29 (.int .i64 (wrap64 (2 ^ n))) (.int .i64 (wrap64 (2 ^ n)))).run Try.prog W = .ok (.slice (some ⟨W.heap.size, 0, none⟩) (2 ^ n) (2 ^ n)) (W.alloc (.cells (bools (List.replicate (2 ^ n) false)).toArray 4)) := by
  rw [shl_wrap n hn]
  have h1 : 2 ^ n ≤ 2 ^ 16 := Nat.pow_le_pow_right (by omega) hn
  exact make_bools (2 ^ n) (by omega) W

set_option maxRecDepth 100000 in
set_option maxHeartbeats 1000000 in
theorem truth_any (n : Nat) (s : Int) (A : Option Addr) (c : Nat) (l : List Nd) (w : World) (hr : RN w A l) (hv : validB n s l = true) :
    Calls Try.prog 31 #[.agg #[.int .i64 n, .int .i64 s, .slice A l.length c]] w fun e w' => ∃ g, e = .returned (.slice (some ⟨g, 0, none⟩) (2 ^ n) (2 ^ n)) ∧ w.heap.size ≤ g ∧ Own w' g 4 (bools (tabB n s l)) ∧ Kept w w' := by
  obtain ⟨hi0, hi1, hln, hs⟩ := valid_start hv
  have o0 := Own.new w 24 [.int .i64 n, .int .i64 s, .slice A l.length c]
  have hmk := make_tab n (by omega)
  have hN : 2 ^ n ≤ 65536 := Nat.pow_le_pow_right (n := 2) (by omega) (show n ≤ 16 by omega)
  rw [← tabTo_all]
  generalize 2 ^ n = N at *
  go_enter Try.func31, Try.ntmps31
  go_wp2_with fail
  clear hmk
  go_loopg [4] N (fun g s4 wr => ∃ k : Nat, k ≤ N ∧ g = N - k ∧ s4 = .int .i64 k ∧ Kept w wr ∧ Own wr w.heap.size 24 [.int .i64 n, .int .i64 s, .slice A l.length c] ∧ Own wr (w.heap.size + 1) 4 (bools (tabTo s l N k)))
  case atStart => exact ⟨0, by omega, rfl, rfl, kept_alloc (kept_alloc (kept_refl _) _) _, o0.alloc _, by simpa [tabTo] using Own.new (w.alloc (.cells #[.int .i64 n, .int .i64 s, .slice A l.length c] 24)) 4 (bools (List.replicate N false))⟩
  case round =>
    clear o0
    obtain ⟨k, hk, rfl, rfl, k1, o0, ho⟩ := hrel
    by_cases hlt : k < N
    · have q0 := o0.cell (j := 0) rfl
      have q1 := o0.cell (j := 1) rfl
      have q2 := o0.cell (j := 2) rfl
      have z1 := ho.lt
      have hlk : k < (tabTo s l N k).length := by rw [tabTo_length (by omega)]; exact hlt
      go_wp2_with fail
      go_region_held3 (fun w' => w'.cell? ⟨w.heap.size, 0, none⟩ = some (.int .i64 n) ∧ w'.cell? ⟨w.heap.size, 1, none⟩ = some (.int .i64 s) ∧ w'.cell? ⟨w.heap.size, 2, none⟩ = some (.slice A l.length c))
        (first | exact ⟨q0, q1, q2⟩ | exact ⟨r0, r1, r2⟩ | exact ⟨t0, t1, t2⟩ | go_keep)
        (first
          | (go_at_call 38; refine (point_any n k _ (by omega) (by omega)).mono ?_; rintro e w1 ⟨rfl, o1, k2⟩; have r0 := kept_cell k2 q0; have r1 := kept_cell k2 q1; have r2 := kept_cell k2 q2)
          | (go_at_call 28; refine (rrun_any n s A c l _ n n (ptB n k) _ (hr.kept (kept_trans (kept_drew k1) k2)) hv o1.rd (by simp) rfl).mono ?_; rintro e w2 ⟨v2, rfl, hrow, k3⟩; have t0 := kept_cell k3 r0; have t1 := kept_cell k3 r1; have t2 := kept_cell k3 r2; have ho2 := (Own.kept (Own.drew ho) k2).kept k3; have cc := ho2.bool hlk; have cf := ho2.frozen k))
      all_goals
        have k4 := kept_trans (kept_trans (kept_drew k1) k2) k3
        have oa := (Own.kept (Own.drew o0) k2).kept k3
        have hpt := runB_pt hv (n := n) (a := k) rfl
        have HPT := Lib.hid hpt; clear hpt
        clear ‹_ ∧ _ ∧ _›
        go_wp2_with fail
        go_roundg (N - (k + 1))
        case rel => exact ⟨k + 1, by omega, rfl, by go_num, kept_set k4 (by omega) _, oa.other (by simp) _, by rw [← tabTo_set hlt, ← HPT.out]; exact ho2.setBool _ _⟩
        case measure => omega
    · have : k = N := by omega
      subst this
      go_wp2_with fail
      go_ret
      exact ⟨w.heap.size + 1, rfl, by omega, ho, k1⟩
end Go.Proofs.Ytinpmdekdfgiiaa

/- Branching programs: Table. -/
set_option linter.unusedVariables false
set_option linter.unusedSimpArgs false
namespace Go.Proofs.Ytinpmdekdfgiiaa
open Go.RowKit

theorem cell_set_ne {w : World} {a b : Addr} {v : Value} (ne : a.block ≠ b.block) (h : w.cell? a = some v) (u : Value) : (w.setCell b u).cell? a = some v :=
  (World.cell?_of_block (Below.heap_setCell w b u a.block ne)).trans h

/-- The end of Table. -/
def TablePost (i s : Int) (l : List Nd) (w : World) (e : Ending) (w' : World) : Prop :=
  Kept w w' ∧ ((validB i s l = false ∧ e = .returned (.tuple #[.slice none 0 0, .int .i64 1])) ∨ (validB i s l = true ∧ 12 < i ∧ e = .returned (.tuple #[.slice none 0 0, .int .i64 5])) ∨
    (validB i s l = true ∧ i ≤ 12 ∧ ∃ g, e = .returned (.tuple #[.slice (some ⟨g, 0, none⟩) (2 ^ i.toNat) (2 ^ i.toNat), .int .i64 0]) ∧ w.heap.size ≤ g ∧ Own w' g 4 (bools (tabB i.toNat s l))))

theorem asks_table {w : World} {g : Nat} {a : Nat} (ha : a < 1000000) {n : Nat} (hn : n ≤ 16) (hg : w.cell? ⟨g, 0, none⟩ = some (.int .i64 a)) : Asks w (.func (.func 70) #[] #[.pointer (some ⟨g, 0, none⟩)]) n a.testBit :=
  ⟨70, _, rfl, enters_of Try.func70 (by kernel_rfl) rfl, fun i w' h0 h1 k => by
    have := tablelit_any w' g a (by omega) (by omega) i h0 (by omega) (kept_cell k hg)
    rwa [Int.toNat_natCast] at this⟩

set_option maxRecDepth 100000 in
set_option maxHeartbeats 1000000 in
theorem table_bad (i s : Int) (A : Option Addr) (c : Nat) (l : List Nd) (w : World) (hl : l.length ≤ 140737488355328) (hr : RN w A l) (hb : validB i s l = false ∨ 12 < i) :
    Calls Try.prog 27 #[.agg #[.int .i64 i, .int .i64 s, .slice A l.length c]] w (TablePost i s l w) := by
  have o0 := Own.new w 24 [.int .i64 i, .int .i64 s, .slice A l.length c]
  cases hv : validB i s l
  · clear hb
    go_enter Try.func27, Try.ntmps27
    go_wp2_with fail
    refine (valid_any _ _ _ _ _ _ hl (hr.kept (kept_alloc (kept_refl _) _))).mono ?_
    rintro e w1 ⟨rfl, k1⟩
    rw [hv]
    go_wp2_with fail
    go_ret2
    exact ⟨kept_trans (kept_alloc (kept_refl _) _) k1, .inl ⟨hv, rfl⟩⟩
  · have hi : 12 < i := by simpa [hv] using hb
    clear hb
    go_enter Try.func27, Try.ntmps27
    go_wp2_with fail
    refine (valid_any _ _ _ _ _ _ hl (hr.kept (kept_alloc (kept_refl _) _))).mono ?_
    rintro e w1 ⟨rfl, k1⟩
    rw [hv]
    have q0 := (o0.kept k1).cell (j := 0) rfl
    go_wp2_with fail
    go_ret2
    exact ⟨kept_trans (kept_alloc (kept_refl _) _) k1, .inr (.inl ⟨hv, hi, rfl⟩)⟩

set_option maxRecDepth 100000 in
set_option maxHeartbeats 1000000 in
theorem table_good (n : Nat) (s : Int) (A : Option Addr) (c : Nat) (l : List Nd) (w : World) (hr : RN w A l) (hv : validB n s l = true) (hi : n ≤ 12) :
    Calls Try.prog 27 #[.agg #[.int .i64 n, .int .i64 s, .slice A l.length c]] w (TablePost n s l w) := by
  obtain ⟨hi0, hi1, hln, hs⟩ := valid_start hv
  have o0 := Own.new w 24 [.int .i64 n, .int .i64 s, .slice A l.length c]
  have hmk := make_tab n (by omega)
  have hN : 2 ^ n ≤ 65536 := Nat.pow_le_pow_right (n := 2) (by omega) (show n ≤ 16 by omega)
  unfold TablePost
  rw [Int.toNat_natCast, ← tabTo_all]
  generalize 2 ^ n = N at *
  have key : ∀ (R : Ending → World → Prop), (∀ g w', w.heap.size ≤ g → Own w' g 4 (bools (tabTo s l N N)) → Kept w w' → R (.returned (.tuple #[.slice (some ⟨g, 0, none⟩) N N, .int .i64 0])) w') → Calls Try.prog 27 #[.agg #[.int .i64 n, .int .i64 s, .slice A l.length c]] w R := by
    intro R hR
    have HR := Lib.hid hR; clear hR
    go_enter Try.func27, Try.ntmps27
    go_wp2_with fail
    refine (valid_any _ _ _ _ _ _ (by omega) (hr.kept (kept_alloc (kept_refl _) _))).mono ?_
    rintro e w1 ⟨rfl, k1⟩
    rw [hv]
    replace o0 := o0.kept k1
    replace k1 := kept_trans (kept_alloc (kept_refl _) _) k1
    have q0 := o0.cell (j := 0) rfl
    have sz := o0.lt
    have o1 := Own.new w1 4 (bools (List.replicate N false))
    go_wp2_with fail
    clear hmk q0
    go_loopg [18] N (fun g s18 wr => ∃ k : Nat, k ≤ N ∧ g = N - k ∧ s18 = .int .i64 k ∧ Kept w wr ∧ Own wr w.heap.size 24 [.int .i64 n, .int .i64 s, .slice A l.length c] ∧ Own wr w1.heap.size 4 (bools (tabTo s l N k)))
    case atStart => exact ⟨0, by omega, rfl, rfl, kept_alloc k1 _, o0.alloc _, by simpa [tabTo] using o1⟩
    case round =>
      clear o0 o1 k1
      obtain ⟨k, hk, rfl, rfl, k1, o0, ho⟩ := hrel
      by_cases hlt : k < N
      · have k2 := kept_alloc k1 (.cells #[.int .i64 k] 3)
        have p0 := o0.alloc (.cells #[.int .i64 k] 3)
        have ho1 := ho.alloc (.cells #[.int .i64 k] 3)
        have oi := Own.new wr 3 [.int .i64 k]
        have q0 := o0.cell (j := 0) rfl
        have q1 := o0.cell (j := 1) rfl
        have q2 := o0.cell (j := 2) rfl
        have z0 := o0.lt
        have z1 := ho.lt
        have hlk : k < (tabTo s l N k).length := by rw [tabTo_length (by omega)]; exact hlt
        go_wp2_with fail
        have u0 := p0.cell (j := 0) rfl
        have u1 := p0.cell (j := 1) rfl
        have u2 := p0.cell (j := 2) rfl
        have u3 := oi.cell (j := 0) rfl
        have hA := asks_table (w := (wr.alloc (.cells #[.int .i64 k] 3)).drew) (g := wr.heap.size) (a := k) (by omega) (n := n) (by omega) (cell_drew u3)
        have hr2 := hr.kept (kept_drew k2)
        clear q0 q1 q2
        have ne0 : w.heap.size ≠ w1.heap.size := by omega
        have ne1 : wr.heap.size ≠ w1.heap.size := by omega
        go_region_held3 (fun w' => w'.cell? ⟨w.heap.size, 0, none⟩ = some (.int .i64 n) ∧ w'.cell? ⟨w.heap.size, 1, none⟩ = some (.int .i64 s) ∧ w'.cell? ⟨w.heap.size, 2, none⟩ = some (.slice A l.length c) ∧ w'.cell? ⟨wr.heap.size, 0, none⟩ = some (.int .i64 k))
          (first | exact ⟨u0, u1, u2, u3⟩ | exact ⟨t0, t1, t2, t3⟩ | exact ⟨cell_set_ne ne0 t0 _, cell_set_ne ne0 t1 _, cell_set_ne ne0 t2 _, cell_set_ne ne1 t3 _⟩ | go_keep)
          (first
            | (go_at_call 68; refine (run_any n s A c l _ (Nat.testBit k) _ hr2 hv hA).mono ?_; rintro e w2 ⟨v2, rfl, hrow, k3⟩; have t0 := kept_cell k3 u0; have t1 := kept_cell k3 u1; have t2 := kept_cell k3 u2; have t3 := kept_cell k3 u3; have ho2 := Own.kept (Own.drew ho1) k3; have cc := ho2.bool hlk; have cf := ho2.frozen k))
        all_goals
          have k4 := kept_trans (kept_drew k2) k3
          have oa := Own.kept (Own.drew p0) k3
          clear ‹_ ∧ _ ∧ _›
          go_wp2_with fail
          go_roundg (N - (k + 1))
          case rel => exact ⟨k + 1, by omega, rfl, by go_num, kept_set k4 (by omega) _, oa.other ne0 _, by rw [← tabTo_set hlt]; exact ho2.setBool _ _⟩
          case measure => omega
      · have : k = N := by omega
        subst this
        go_wp2_with fail
        exact HR.out _ _ (by omega) ho k1
  exact key _ fun g w' h1 h2 h3 => ⟨h3, .inr (.inr ⟨hv, by omega, g, rfl, h1, h2⟩)⟩
end Go.Proofs.Ytinpmdekdfgiiaa
