/- The tables (Truth, Table). -/
import Derived.Test.YtinpmdekdfgiiaaB11
set_option linter.unusedVariables false
set_option linter.unusedSimpArgs false
namespace Go.Proofs.Ytinpmdekdfgiiaa
open Go.RowKit

theorem runF_congr {i s0 : Int} {l : List Nd} (hv : validB i s0 l = true) {x y : Nat → Bool} (h : ∀ k : Nat, (k : Int) < i → x k = y k) : ∀ (f : Nat) (c : Int), c < l.length → runF l x f c = runF l y f c := by
  intro f
  induction f with
  | zero => intro c _; rfl
  | succ f ih =>
    intro c hc
    unfold runF
    split
    · rfl
    · have ok := valid_node hv (k := c.toNat) (by omega)
      have e : stepN l x c = stepN l y c := by unfold stepN; rw [h _ (by omega)]
      have st := step_ok y hv (by omega) hc
      rw [e, ih _ st.2.1]
theorem runB_pt {i s : Int} {l : List Nd} (hv : validB i s l = true) {n a : Nat} (hn : (n : Int) = i) : runB s l (xs (ptB n a)) = runB s l a.testBit := by
  obtain ⟨_, _, _, hs⟩ := valid_start hv
  unfold runB
  rw [runF_congr hv (x := xs (ptB n a)) (y := a.testBit) (fun k hk => ptB_ba (by omega)) _ _ (by omega)]
/-- The table. -/
def tabTo (s : Int) (l : List Nd) (N k : Nat) : List Bool := (List.range k).map (fun a => runB s l a.testBit) ++ List.replicate (N - k) false
def tabB (n : Nat) (s : Int) (l : List Nd) : List Bool := (List.range (2 ^ n)).map fun a => runB s l a.testBit
@[simp] theorem tabB_length (n : Nat) (s : Int) (l : List Nd) : (tabB n s l).length = 2 ^ n := by simp [tabB]
@[simp] theorem tabTo_length {s : Int} {l : List Nd} {N k : Nat} (h : k ≤ N) : (tabTo s l N k).length = N := by simp [tabTo]; omega
theorem tabTo_set {s : Int} {l : List Nd} {N k : Nat} (h : k < N) : (tabTo s l N k).set k (runB s l k.testBit) = tabTo s l N (k + 1) := by
  unfold tabTo
  rw [show N - k = (N - (k + 1)) + 1 by omega, List.replicate_succ, List.set_append_right _ _ (by simp)]
  simp [List.range_succ]
theorem tabTo_all (n : Nat) (s : Int) (l : List Nd) : tabTo s l (2 ^ n) (2 ^ n) = tabB n s l := by simp [tabTo, tabB]

theorem shl_wrap (n : Nat) (hn : n ≤ 16) : wrap64 (2 ^ n) = ((2 ^ n : Nat) : Int) := by
  have h1 : 2 ^ n ≤ 2 ^ 16 := Nat.pow_le_pow_right (by omega) hn
  have h2 : ((2 : Int) ^ n) = ((2 ^ n : Nat) : Int) := by simp
  rw [h2]
  generalize 2 ^ n = m at *
  unfold wrap64
  omega
theorem make_tab (n : Nat) (hn : n ≤ 16) (W : World) :
    (Instr.makeSlice 29 (.int .i64 (wrap64 (2 ^ n))) (.int .i64 (wrap64 (2 ^ n)))).run Try.prog W = .ok (.slice (some ⟨W.heap.size, 0, none⟩) (2 ^ n) (2 ^ n)) (W.alloc (.cells (bools (List.replicate (2 ^ n) false)).toArray 4)) := by
  rw [shl_wrap n hn]
  have h1 : 2 ^ n ≤ 2 ^ 16 := Nat.pow_le_pow_right (by omega) hn
  exact make_bools (2 ^ n) (by omega) W

set_option maxRecDepth 100000 in
set_option maxHeartbeats 1000000 in
theorem truth_any (n : Nat) (s : Int) (A : Option Addr) (c : Nat) (l : List Nd) (w : World) (hr : RN w A l) (hv : validB n s l = true) :
    Calls Try.prog 31 #[.agg #[.int .i64 n, .int .i64 s, .slice A l.length c]] w fun e w' => ∃ g, e = .returned (.slice (some ⟨g, 0, none⟩) (2 ^ n) (2 ^ n)) ∧ w.heap.size ≤ g ∧ Own w' g 4 (bools (tabB n s l)) ∧ Kept w w' := by
  obtain ⟨hi0, hi1, hln, hs⟩ := valid_start hv
  have o0 := Own.new w 24 [.int .i64 n, .int .i64 s, .slice A l.length c]
  have hmk := make_tab n (by omega)
  have hN : 2 ^ n ≤ 65536 := Nat.pow_le_pow_right (n := 2) (by omega) (show n ≤ 16 by omega)
  rw [← tabTo_all]
  generalize 2 ^ n = N at *
  go_enter Try.func31, Try.ntmps31
  go_wp2_with fail
  clear hmk
  go_loopg [4] N (fun g s4 wr => ∃ k : Nat, k ≤ N ∧ g = N - k ∧ s4 = .int .i64 k ∧ Kept w wr ∧ Own wr w.heap.size 24 [.int .i64 n, .int .i64 s, .slice A l.length c] ∧ Own wr (w.heap.size + 1) 4 (bools (tabTo s l N k)))
  case atStart => exact ⟨0, by omega, rfl, rfl, kept_alloc (kept_alloc (kept_refl _) _) _, o0.alloc _, by simpa [tabTo] using Own.new (w.alloc (.cells #[.int .i64 n, .int .i64 s, .slice A l.length c] 24)) 4 (bools (List.replicate N false))⟩
  case round =>
    clear o0
    obtain ⟨k, hk, rfl, rfl, k1, o0, ho⟩ := hrel
    by_cases hlt : k < N
    · have q0 := o0.cell (j := 0) rfl
      have q1 := o0.cell (j := 1) rfl
      have q2 := o0.cell (j := 2) rfl
      have z1 := ho.lt
      have hlk : k < (tabTo s l N k).length := by rw [tabTo_length (by omega)]; exact hlt
      go_wp2_with fail
      go_region_held3 (fun w' => w'.cell? ⟨w.heap.size, 0, none⟩ = some (.int .i64 n) ∧ w'.cell? ⟨w.heap.size, 1, none⟩ = some (.int .i64 s) ∧ w'.cell? ⟨w.heap.size, 2, none⟩ = some (.slice A l.length c))
        (first | exact ⟨q0, q1, q2⟩ | exact ⟨r0, r1, r2⟩ | exact ⟨t0, t1, t2⟩ | go_keep)
        (first
          | (go_at_call 38; refine (point_any n k _ (by omega) (by omega)).mono ?_; rintro e w1 ⟨rfl, o1, k2⟩; have r0 := kept_cell k2 q0; have r1 := kept_cell k2 q1; have r2 := kept_cell k2 q2)
          | (go_at_call 28; refine (rrun_any n s A c l _ n n (ptB n k) _ (hr.kept (kept_trans (kept_drew k1) k2)) hv o1.rd (by simp) rfl).mono ?_; rintro e w2 ⟨v2, rfl, hrow, k3⟩; have t0 := kept_cell k3 r0; have t1 := kept_cell k3 r1; have t2 := kept_cell k3 r2; have ho2 := (Own.kept (Own.drew ho) k2).kept k3; have cc := ho2.bool hlk; have cf := ho2.frozen k))
      all_goals
        have k4 := kept_trans (kept_trans (kept_drew k1) k2) k3
        have oa := (Own.kept (Own.drew o0) k2).kept k3
        have hpt := runB_pt hv (n := n) (a := k) rfl
        have HPT := Lib.hid hpt; clear hpt
        clear ‹_ ∧ _ ∧ _›
        go_wp2_with fail
        go_roundg (N - (k + 1))
        case rel => exact ⟨k + 1, by omega, rfl, by go_num, kept_set k4 (by omega) _, oa.other (by simp) _, by rw [← tabTo_set hlt, ← HPT.out]; exact ho2.setBool _ _⟩
        case measure => omega
    · have : k = N := by omega
      subst this
      go_wp2_with fail
      go_ret
      exact ⟨w.heap.size + 1, rfl, by omega, ho, k1⟩
end Go.Proofs.Ytinpmdekdfgiiaa
