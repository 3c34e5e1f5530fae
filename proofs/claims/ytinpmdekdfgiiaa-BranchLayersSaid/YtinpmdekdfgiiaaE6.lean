/- Slim of an invalid program; none; the reference's Slim. -/
import Derived.Test.YtinpmdekdfgiiaaE5
import Derived.Laws.StructEq
set_option linter.unusedVariables false
set_option linter.unusedSimpArgs false
namespace Go.Proofs.Ytinpmdekdfgiiaa
open Go.RowKit Go.Maps

/-- What a function that fails with a word answers: the zero program. -/
def BrBad (g : Int) (w : World) (e : Ending) (w' : World) : Prop := e = .returned (.tuple #[.agg #[.int .i64 0, .int .i64 0, .slice none 0 0], .int .i64 g]) ∧ Kept w w'

set_option maxRecDepth 100000 in
set_option maxHeartbeats 1000000 in
theorem slim_bad (n s : Int) (A : Option Addr) (c : Nat) (l : List Nd) (w : World) (hm : l.length ≤ 140737488355328) (hr : RN w A l) (hv : validB n s l = false) :
    Calls Try.prog 40 #[.agg #[.int .i64 n, .int .i64 s, .slice A l.length c]] w (BrBad 1 w) := by
  have a0 := (Own.new w 24 [.int .i64 n, .int .i64 s, .slice A l.length c]).alloc (.cells #[.int .i64 0, .int .i64 0, .slice none 0 0] 24)
  have a1 := Own.new (w.alloc (.cells #[.int .i64 n, .int .i64 s, .slice A l.length c] 24)) 24 [.int .i64 0, .int .i64 0, .slice none 0 0]
  have ka := kept_alloc (kept_alloc (kept_refl w) (.cells #[.int .i64 n, .int .i64 s, .slice A l.length c] 24)) (.cells #[.int .i64 0, .int .i64 0, .slice none 0 0] 24)
  simp only [World.size_alloc] at a1
  have q0 := a0.cell (j := 0) rfl
  have q1 := a0.cell (j := 1) rfl
  have q2 := a0.cell (j := 2) rfl
  go_enter Try.func40, Try.ntmps40
  go_wp2_with fail
  refine (valid_any n s A c l _ hm (hr.kept ka)).mono ?_
  rintro e w1 ⟨rfl, k1⟩
  rw [hv]
  replace a1 := a1.kept k1
  replace ka := kept_trans ka k1
  clear q0 q1 q2 k1 a0 hr
  have e0 := a1.cell (j := 0) rfl
  have e1 := a1.cell (j := 1) rfl
  have e2 := a1.cell (j := 2) rfl
  have f0 := a1.frozen 0
  have f1 := a1.frozen 1
  have f2 := a1.frozen 2
  go_wp2_with fail
  have o3 := ((a1.set 0 (.int .i64 0)).set 1 (.int .i64 0)).set 2 (.slice none 0 0)
  have pk := kept_set (g := w.heap.size + 1) (j := 2) (kept_set (g := w.heap.size + 1) (j := 1) (kept_set (g := w.heap.size + 1) (j := 0) ka (by omega) (.int .i64 0)) (by omega) (.int .i64 0)) (by omega) (.slice none 0 0)
  obtain ⟨W2, hW2⟩ : ∃ W2, W2 = ((w1.setCell ⟨w.heap.size + 1, 0, none⟩ (.int .i64 0)).setCell ⟨w.heap.size + 1, 1, none⟩ (.int .i64 0)).setCell ⟨w.heap.size + 1, 2, none⟩ (.slice none 0 0) := ⟨_, rfl⟩
  rw [← hW2] at pk o3 ⊢
  clear hW2 e0 e1 e2
  have q0 := o3.cell (j := 0) rfl
  have q1 := o3.cell (j := 1) rfl
  have q2 := o3.cell (j := 2) rfl
  exact bodyPost_ret (v := .tuple #[.agg #[.int .i64 0, .int .i64 0, .slice none 0 0], .int .i64 1]) (by simp [results, Try.results40, go_sem, q0, q1, q2]) rfl ⟨rfl, pk⟩

set_option maxRecDepth 100000 in
set_option maxHeartbeats 1000000 in
theorem none_zero (w : World) : Calls Try.prog 41 #[.agg #[.int .i64 0, .int .i64 0, .slice none 0 0]] w fun e w' => e = .returned (.bool true) ∧ Kept w w' := by
  go_enter Try.func41, Try.ntmps41
  go_wp2_with fail
  go_ret
  exact ⟨rfl, kept_alloc (kept_refl _) _⟩

set_option maxRecDepth 100000 in
set_option maxHeartbeats 1000000 in
theorem rreached_any (n s : Int) (A : Option Addr) (c : Nat) (l : List Nd) (w : World) (hr : RN w A l) (hv : validB n s l = true) (hh : ∀ k, k < l.length → hit s l k) :
    Calls Try.prog 81 #[.agg #[.int .i64 n, .int .i64 s, .slice A l.length c]] w fun e w' => e = .returned (.bool true) ∧ Kept w w' := by
  obtain ⟨hi0, hi1, hln, hs⟩ := valid_start hv
  go_enter Try.func81, Try.ntmps81
  go_wp2_with fail
  refine (rlevels_any _ _ _ _ _ _ (hr.kept (kept_alloc (kept_refl _) _)) hv).mono ?_
  rintro e w1 ⟨g, rfl, hg, ho, k1⟩
  replace k1 := kept_trans (kept_alloc (kept_refl _) _) k1
  go_wp2_with fail
  go_loopg [4] l.length (fun g' s4 wr => ∃ k : Nat, k ≤ l.length ∧ g' = l.length - k ∧ s4 = .int .i64 k ∧ w1 = wr)
  case atStart => exact ⟨0, by omega, rfl, rfl, rfl⟩
  case round =>
    obtain ⟨k, hk, rfl, rfl, rfl⟩ := hrel
    by_cases hlt : k < l.length
    · have hk0 := ho.int (j := k) (by simpa using hlt)
      have hh0 : 0 ≤ ia (lv s l) k := hh k hlt
      go_wp2_with fail
      go_roundg (l.length - (k + 1))
      case rel => exact ⟨k + 1, by omega, rfl, by go_num, rfl⟩
      case measure => omega
    · have : k = l.length := by omega
      subst this
      go_wp2_with fail
      go_ret
      exact ⟨rfl, k1⟩

theorem held48 : Try.prog.stoodInHeld 48 = false := by kernel_rfl
theorem fields48 : Try.prog.underlying 48 = some (.struct (Try.prog.fieldsOf 48)) := by kernel_rfl
/-- Two nodes are compared. -/
theorem eq48 (a b : Nd) (w : World) : (binOp .eql 48 (nodeV a) (nodeV b)).run Try.prog w = .ok (.bool (decide (a = b))) w := by
  have u3 := Try.underlying3
  have a3 := Try.isAgg3
  have z3 := Try.sizeOf3
  unfold nodeV
  rw [run_eql_struct, show (10000 : Nat) = 9999 + 1 from rfl, run_equalIn_agg w 9999 48 _ _ fields48 held48]
  simp only [Program.fieldsOf, Try.underlying48]
  go_simp
  cases a; cases b
  rename_i a1 a2 a3 b1 b2 b3
  by_cases h1 : a1 = b1 <;> by_cases h2 : a2 = b2 <;> by_cases h3 : a3 = b3 <;> simp [h1, h2, h3]

theorem slimB_spec {s : Int} {l : List Nd} (h : slimB s l = true) : (∀ i, i < l.length → nz l i ≠ no l i) ∧ (∀ i k, i < l.length → k < i → nd l i ≠ nd l k) ∧ ∀ k, k < l.length → hit s l k := by
  unfold slimB at h
  rw [Bool.and_eq_true] at h
  refine ⟨fun i hi => ?_, fun i k hi hk => ?_, fun k hk => hitB_iff.1 (allN_true.1 h.2 k hk)⟩
  · have := allN_true.1 h.1 i hi
    rw [Bool.and_eq_true] at this
    exact of_decide_eq_true this.1
  · have := allN_true.1 h.1 i hi
    rw [Bool.and_eq_true] at this
    exact of_decide_eq_true (allN_true.1 this.2 k hk)

set_option maxRecDepth 100000 in
set_option maxHeartbeats 1000000 in
theorem rslim_any (n s : Int) (A : Option Addr) (c : Nat) (l : List Nd) (w : World) (hr : RN w A l) (hv : validB n s l = true) (hsl : slimB s l = true) :
    Calls Try.prog 42 #[.agg #[.int .i64 n, .int .i64 s, .slice A l.length c]] w fun e w' => e = .returned (.bool true) ∧ Kept w w' := by
  obtain ⟨hi0, hi1, hln, hs⟩ := valid_start hv
  obtain ⟨h1, h2, h3⟩ := slimB_spec hsl
  have H1 := Lib.hid h1; have H2 := Lib.hid h2
  have C := fun (w' : World) (k : Kept w w') => rreached_any n s A c l w' (hr.kept k) hv h3
  have HC := Lib.hid C
  clear h1 h2 h3 C hsl
  have o0 := Own.new w 24 [.int .i64 n, .int .i64 s, .slice A l.length c]
  have K0 : Kept w (w.alloc (.cells #[.int .i64 n, .int .i64 s, .slice A l.length c] 24)) := kept_alloc (kept_refl w) _
  go_enter Try.func42, Try.ntmps42
  go_wp2_with fail
  go_loopg [3] l.length (fun g' s3 wr => ∃ i : Nat, i ≤ l.length ∧ g' = l.length - i ∧ s3 = .int .i64 i ∧ Own wr w.heap.size 24 [.int .i64 n, .int .i64 s, .slice A l.length c] ∧ Kept w wr)
  case atStart => exact ⟨0, by omega, rfl, rfl, o0, K0⟩
  case round =>
    clear o0 K0
    obtain ⟨i, hi, rfl, rfl, o0, K0⟩ := hrel
    have q0 := o0.cell (j := 0) rfl
    have q1 := o0.cell (j := 1) rfl
    have q2 := o0.cell (j := 2) rfl
    by_cases hlt : i < l.length
    · obtain ⟨b, off, rfl, hcs⟩ := hr.at_ hlt
      have hcs := Lib.hid hcs
      obtain ⟨d0, d1, d2⟩ := hcs.out i hlt
      replace d0 := kept_cell K0 d0
      replace d1 := kept_cell K0 d1
      replace d2 := kept_cell K0 d2
      have hne : (nz l i == no l i) = false := beq_eq_false_iff_ne.2 (H1.out i hlt)
      have g0 : (0 : Int) ≤ (i : Int) := by omega
      have g1 : (i : Int) < (l.length : Int) := by omega
      go_wp2_with fail
      go_quiet (fail)
      go_wp2_with fail
      obtain ⟨w9, hw9⟩ : ∃ x, x = wr.drewN nq := ⟨_, rfl⟩
      have K9 : Kept wr w9 := by rw [hw9]; exact below_drewN (kept_refl _) nq
      rw [← hw9]
      replace d0 := kept_cell K9 d0; replace d1 := kept_cell K9 d1; replace d2 := kept_cell K9 d2
      replace K0 := kept_trans K0 K9; replace o0 := o0.kept K9
      clear q0 q1 q2 hw9 K9 hne
      go_loopg [4] i (fun g' s4 wr => ∃ k : Nat, k ≤ i ∧ g' = i - k ∧ s4 = .int .i64 k ∧ Own wr w.heap.size 24 [.int .i64 n, .int .i64 s, .slice (some ⟨b, off, none⟩) l.length c] ∧ Kept w wr)
      case atStart => exact ⟨0, by omega, rfl, rfl, o0, K0⟩
      case round =>
        clear o0 K0 d0 d1 d2
        obtain ⟨k, hk, rfl, rfl, o0, K0⟩ := hrel
        have q0 := o0.cell (j := 0) rfl
        have q1 := o0.cell (j := 1) rfl
        have q2 := o0.cell (j := 2) rfl
        by_cases hlk : k < i
        · obtain ⟨d0, d1, d2⟩ := hcs.out i hlt
          replace d0 := kept_cell K0 d0
          replace d1 := kept_cell K0 d1
          replace d2 := kept_cell K0 d2
          obtain ⟨e0, e1, e2⟩ := hcs.out k (by omega)
          replace e0 := kept_cell K0 e0
          replace e1 := kept_cell K0 e1
          replace e2 := kept_cell K0 e2
          have g2 : (0 : Int) ≤ (k : Int) := by omega
          have g3 : (k : Int) < (l.length : Int) := by omega
          have hq : ∀ w, (binOp .eql 48 (.agg #[.int .i64 (nv l i), .int .i64 (nz l i), .int .i64 (no l i)]) (.agg #[.int .i64 (nv l k), .int .i64 (nz l k), .int .i64 (no l k)])).run Try.prog w = .ok (.bool false) w := fun w => by
            have := eq48 (nd l i) (nd l k) w
            rw [decide_eq_false (H2.out i k hlt hlk)] at this
            exact this
          go_wp2_with fail
          go_quiet (fail)
          go_wp2_with fail
          have o9 : Own (wr.drewN nq) w.heap.size 24 [.int .i64 n, .int .i64 s, .slice (some ⟨b, off, none⟩) l.length c] := o0
          have K9 : Kept w (wr.drewN nq) := below_drewN K0 nq
          go_roundg (i - (k + 1))
          case rel => exact ⟨k + 1, by omega, rfl, by go_num, o9, K9⟩
          case measure => omega
        · have : k = i := by omega
          subst this
          go_wp2_with fail
          go_roundg (l.length - (k + 1))
          case rel => exact ⟨k + 1, by omega, rfl, by go_num, o0, K0⟩
          case measure => omega
    · have : i = l.length := by omega
      subst this
      go_wp2_with fail
      refine (HC.out _ K0).mono ?_
      rintro e w2 ⟨rfl, k2⟩
      go_wp2_with fail
      go_ret
      exact ⟨rfl, kept_trans K0 k2⟩
end Go.Proofs.Ytinpmdekdfgiiaa
