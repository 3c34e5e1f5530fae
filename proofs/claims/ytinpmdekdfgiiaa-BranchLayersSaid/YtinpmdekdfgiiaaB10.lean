/- Branching programs: Run of the reference. -/
import Derived.Test.YtinpmdekdfgiiaaB9
set_option linter.unusedVariables false
set_option linter.unusedSimpArgs false
namespace Go.Proofs.Ytinpmdekdfgiiaa
open Go.RowKit

def RRunPost (s : Int) (l : List Nd) (x : List Bool) (w : World) (e : Ending) (w' : World) : Prop :=
  ∃ v : Value, e = .returned (.tuple #[.bool (runB s l (xs x)), v]) ∧ w'.ownsRow w.heap.size 3 1 v (wayB s l (xs x)).length (ints (wayB s l (xs x))) ∧ Kept w w'

set_option maxRecDepth 100000 in
set_option maxHeartbeats 1000000 in
theorem rrun_any (i s : Int) (A : Option Addr) (c : Nat) (l : List Nd) (X : Option Addr) (n cx : Nat) (x : List Bool) (w : World) (hr : RN w A l) (hv : validB i s l = true) (hX : Rd w X (bools x)) (hn : x.length = n) (hni : (n : Int) = i) :
    Calls Try.prog 28 #[.agg #[.int .i64 i, .int .i64 s, .slice A l.length c], .slice X n cx] w (RRunPost s l x w) := by
  obtain ⟨hi0, hi1, hln, hs⟩ := valid_start hv
  have hn16 : n ≤ 16 := by omega
  have HN := Lib.hid hni; clear hni
  have o0 := Own.new w 24 [.int .i64 i, .int .i64 s, .slice A l.length c]
  go_enter Try.func28, Try.ntmps28
  go_wp2_with fail
  go_loopg [6, 7] l.length (fun g s6 s7 wr => ∃ (p : List Int) (cu : Int), (cu < 0 → cu = -1 ∨ cu = -2) ∧ cu < l.length ∧ (0 ≤ cu → l.length ≤ g + cu.toNat) ∧ runF l (xs x) l.length s = ((runF l (xs x) g cu).1, p ++ (runF l (xs x) g cu).2) ∧ p.length + g = l.length ∧ s7 = .int .i64 cu ∧ wr.ownsRow (w.heap.size + 1) 3 1 s6 p.length (ints p) ∧ Kept w wr ∧ Own wr w.heap.size 24 [.int .i64 i, .int .i64 s, .slice A l.length c])
  case atStart => exact ⟨[], s, by omega, by omega, by omega, by simp, by simp, rfl, World.ownsRow_nil _ _ _ _, kept_alloc (kept_refl _) _, o0⟩
  case round =>
    clear o0
    obtain ⟨p, cu, hc1, hc2, hc3, hrun, hpl, rfl, hrow, k1, o0⟩ := hrel
    have HR := Lib.hid hrun; clear hrun
    by_cases hcu : 0 ≤ cu
    · obtain ⟨b, off, rfl, hcs⟩ := hr.at_ (k := cu.toNat) (by omega)
      obtain ⟨d0, d1, d2⟩ := hcs cu.toNat (by omega)
      clear hcs
      have ok := valid_node hv (k := cu.toNat) (by omega)
      obtain ⟨bx, offx, rfl, hx⟩ := hX.bool (k := 0) (by have := HN.out; omega)
      have x0 := hx (nv l cu.toNat).toNat (by have := HN.out; omega)
      clear hx
      have hvn : nv l cu.toNat < n := by have := HN.out; omega
      have sz : w.heap.size + 1 ≤ wr.heap.size := o0.lt
      go_wp2_with (at_builtin; refine app_int (w.heap.size + 1) rfl (.tmp 12) (.tmp 14) 36 3 rfl Try.underlying36 info3 u6 p.length p cu rfl rfl hrow sz (by omega) ?_; intro v3 w3 hr3 hg3 hat3; have k3 : Kept w w3 := kept_grown k1 hrow (Nat.le_succ _) hg3; have o3 := o0.grown hg3 (by intro h; have := (hrow.lt _ h.symm).1; omega); replace d0 := kept_cell k3 d0; replace d1 := kept_cell k3 d1; replace d2 := kept_cell k3 d2; replace x0 := kept_cell k3 x0; have e1 := o3.cell (j := 1) rfl; have e2 := o3.cell (j := 2) rfl; clear hrow hg3 hat3 o0 k1 sz)
      all_goals
        have st := step_ok (xs x) hv hcu hc2
        obtain ⟨f', rfl⟩ : ∃ f', gk = f' + 1 := ⟨gk - 1, by omega⟩
        have hst : runF l (xs x) (f' + 1) cu = ((runF l (xs x) f' (stepN l (xs x) cu)).1, cu :: (runF l (xs x) f' (stepN l (xs x) cu)).2) := by
          rw [runF, if_neg (by omega)]
        have hrun := HR.out
        rw [hst] at hrun
        have HR2 := Lib.hid hrun
        clear hrun hst HR
        go_roundg f'
        case rel => exact ⟨p ++ [cu], stepN l (xs x) cu, st.1, st.2.1, by omega, by rw [HR2.out]; simp, by simp; omega, congrArg (Value.int .i64) (by unfold stepN pk xs; simp [*]), by simpa using hr3, k3, o3⟩
        case measure => omega
    · have hneg : cu < 0 := by omega
      have hd : decide (0 ≤ cu) = false := decide_eq_false (by omega)
      have hrun := HR.out
      rw [runF_neg _ _ _ hneg] at hrun
      simp only [List.append_nil] at hrun
      have HR2 := Lib.hid hrun
      clear hrun HR
      have hb : runB s l (xs x) = (cu == -2) := by unfold runB; rw [HR2.out]
      have hw : wayB s l (xs x) = p := by unfold wayB; rw [HR2.out]
      have HB := Lib.hid hb; clear hb
      have HW := Lib.hid hw; clear hw
      go_wp2_with fail
      go_ret2
      refine ⟨u6, ?_, ?_, k1⟩
      · rw [HB.out]; rfl
      · rw [HW.out]; exact hrow.mono (Nat.le_succ _)
end Go.Proofs.Ytinpmdekdfgiiaa
