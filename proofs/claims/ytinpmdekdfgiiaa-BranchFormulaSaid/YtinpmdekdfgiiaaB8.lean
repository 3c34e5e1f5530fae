/- Branching programs: Layered of the reference. -/
import Derived.Test.YtinpmdekdfgiiaaB7
set_option linter.unusedVariables false
set_option linter.unusedSimpArgs false
namespace Go.Proofs.Ytinpmdekdfgiiaa
open Go.RowKit

set_option maxRecDepth 100000 in
set_option maxHeartbeats 1000000 in
theorem rlayered_any (i s : Int) (A : Option Addr) (c : Nat) (l : List Nd) (w : World) (hr : RN w A l) (hv : validB i s l = true) :
    Calls Try.prog 22 #[.agg #[.int .i64 i, .int .i64 s, .slice A l.length c]] w fun e w' => e = .returned (.bool (layB s l)) ∧ Kept w w' := by
  have o1 := Own.new w 24 [.int .i64 i, .int .i64 s, .slice A l.length c]
  obtain ⟨hi0, hi1, hln, hs⟩ := valid_start hv
  go_enter Try.func22, Try.ntmps22
  go_wp2_with fail
  refine (rlevels_any _ _ _ _ _ _ (hr.kept (kept_alloc (kept_refl _) _)) hv).mono ?_
  rintro e w1 ⟨g, rfl, hg, ho, k1⟩
  replace o1 := o1.kept k1
  have gne : w.heap.size < g := by have := hg; simp only [World.size_alloc] at this; omega
  replace k1 := kept_trans (kept_alloc (kept_refl _) _) k1
  go_wp2_with fail
  go_loopg [4] l.length (fun g' s14 wr => ∃ k : Nat, k ≤ l.length ∧ (∀ j, j < k → okL l (lv s l) j = true) ∧ g' = l.length - k ∧ s14 = .int .i64 k ∧ Kept w wr ∧ Own wr w.heap.size 24 [.int .i64 i, .int .i64 s, .slice A l.length c] ∧ Own wr g 3 (ints (lv s l)))
  case atStart => exact ⟨0, by omega, by omega, rfl, rfl, k1, o1, ho⟩
  case round =>
    clear ho o1
    obtain ⟨k, hk, hj, rfl, rfl, k3, o1, ho⟩ := hrel
    have HJ := Lib.hid hj; clear hj
    by_cases hlt : k < l.length
    · obtain ⟨b, off, rfl, hcs⟩ := hr.at_ hlt
      obtain ⟨d0, d1, d2⟩ := hcs k hlt
      clear hcs
      replace d0 := kept_cell k3 d0
      have q2 := o1.cell (j := 2) rfl
      replace d1 := kept_cell k3 d1
      replace d2 := kept_cell k3 d2
      have ok := valid_node hv hlt
      have ck := ho.int (j := k) (by simpa using hlt)
      have low := lv_low hv k
      have hlt3 := ho.lt
      go_upto_region 6 with fail
      clear d0 d1 d2 q2
      have dn := Own.new wr 48 [.int .i64 (nv l k), .int .i64 (nz l k), .int .i64 (no l k)]
      go_cut [59] (fun s59 wx => s59 = .bool (!okL l (lv s l) k) ∧ ∃ n, wx = (wr.alloc (.cells [.int .i64 (nv l k), .int .i64 (nz l k), .int .i64 (no l k)].toArray 48)).drewN n)
      case first =>
        by_cases h1 : ia (lv s l) k < 0
        · go_quiet (fail)
          go_wp2_with fail
          go_meet
          exact ⟨congrArg Value.bool (by unfold okL; grind), _, rfl⟩
        · have c1 : decide (ia (lv s l) k < 0) = false := decide_eq_false h1
          have cs : IntKind.i64.wrap (ia (lv s l) k + 1) = ia (lv s l) k + 1 := IntWalk.i64_in _ (by omega)
          by_cases h2 : 0 ≤ nz l k
          · have c2 : decide (0 ≤ nz l k) = true := decide_eq_true h2
            have cz := ho.int (j := (nz l k).toNat) (by simp; omega)
            by_cases h3 : ia (lv s l) (nz l k).toNat = ia (lv s l) k + 1
            · have c3 : (ia (lv s l) (nz l k).toNat != ia (lv s l) k + 1) = false := by simp [h3]
              have H3 := Lib.hid h3; clear h3
              by_cases h4 : 0 ≤ no l k
              · have c4 : decide (0 ≤ no l k) = true := decide_eq_true h4
                have co := ho.int (j := (no l k).toNat) (by simp; omega)
                by_cases h5 : ia (lv s l) (no l k).toNat = ia (lv s l) k + 1
                · have c5 : (ia (lv s l) (no l k).toNat != ia (lv s l) k + 1) = false := by simp [h5]
                  have H5 := Lib.hid h5; clear h5
                  (go_quiet (fail); go_wp2_with fail; go_meet; exact ⟨congrArg Value.bool (by have h5 := H5.out; have h3 := H3.out; unfold okL; grind), _, rfl⟩)
                · have c5 : (ia (lv s l) (no l k).toNat != ia (lv s l) k + 1) = true := by simp [h5]
                  (go_quiet (fail); go_wp2_with fail; go_meet; exact ⟨congrArg Value.bool (by have h3 := H3.out; unfold okL; grind), _, rfl⟩)
              · have c4 : decide (0 ≤ no l k) = false := decide_eq_false h4
                (go_quiet (fail); go_wp2_with fail; go_meet; exact ⟨congrArg Value.bool (by have h3 := H3.out; unfold okL; grind), _, rfl⟩)
            · have c3 : (ia (lv s l) (nz l k).toNat != ia (lv s l) k + 1) = true := by simp [h3]
              (go_quiet (fail); go_wp2_with fail; go_meet; exact ⟨congrArg Value.bool (by unfold okL; grind), _, rfl⟩)
          · have c2 : decide (0 ≤ nz l k) = false := decide_eq_false h2
            by_cases h4 : 0 ≤ no l k
            · have c4 : decide (0 ≤ no l k) = true := decide_eq_true h4
              have co := ho.int (j := (no l k).toNat) (by simp; omega)
              by_cases h5 : ia (lv s l) (no l k).toNat = ia (lv s l) k + 1
              · have c5 : (ia (lv s l) (no l k).toNat != ia (lv s l) k + 1) = false := by simp [h5]
                have H5 := Lib.hid h5; clear h5
                (go_quiet (fail); go_wp2_with fail; go_meet; exact ⟨congrArg Value.bool (by have h5 := H5.out; unfold okL; grind), _, rfl⟩)
              · have c5 : (ia (lv s l) (no l k).toNat != ia (lv s l) k + 1) = true := by simp [h5]
                (go_quiet (fail); go_wp2_with fail; go_meet; exact ⟨congrArg Value.bool (by unfold okL; grind), _, rfl⟩)
            · have c4 : decide (0 ≤ no l k) = false := decide_eq_false h4
              (go_quiet (fail); go_wp2_with fail; go_meet; exact ⟨congrArg Value.bool (by unfold okL; grind), _, rfl⟩)
      case rest =>
        obtain ⟨rfl, n, rfl⟩ := hcut
        cases hok : okL l (lv s l) k
        · go_wp2_with fail
          go_ret
          exact ⟨ret_bool (lay_no hlt hok), below_drewN (kept_alloc k3 _) n⟩
        · go_wp2_with fail
          go_roundg (l.length - (k + 1))
          case rel => exact ⟨k + 1, by omega, fun j h => by rcases Nat.lt_succ_iff_lt_or_eq.1 h with h | rfl; exact HJ.out j h; exact hok, rfl, by go_num, below_drewN (kept_alloc k3 _) n, (o1.alloc _).drewN n, (ho.alloc _).drewN n⟩
          case measure => omega
    · have : k = l.length := by omega
      subst this
      go_wp2_with fail
      go_ret
      exact ⟨ret_bool (by unfold layB; rw [allN_true.2 HJ.out]), k3⟩
end Go.Proofs.Ytinpmdekdfgiiaa
