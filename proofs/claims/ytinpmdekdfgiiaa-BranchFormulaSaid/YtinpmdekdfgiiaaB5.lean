/- Branching programs: slices.Max, Length (both texts). -/
import Derived.Test.YtinpmdekdfgiiaaB4
import Derived.Test.YtinpmdekdfgiiaaB2
set_option linter.unusedVariables false
set_option linter.unusedSimpArgs false
namespace Go.Proofs.Ytinpmdekdfgiiaa
open Go.RowKit

/-- The greatest of -1 and the first k. -/
def mxTo (L : List Int) : Nat → Int
  | 0 => -1
  | k + 1 => max (mxTo L k) (ia L k)
def mxL (L : List Int) : Int := mxTo L L.length
/-- The number of levels. -/
def lenB (s : Int) (l : List Nd) : Int := mxL (lv s l) + 1

theorem mxTo_le {L : List Int} {b : Int} (h : ∀ j, ia L j ≤ b) (hb : -1 ≤ b) (k : Nat) : -1 ≤ mxTo L k ∧ mxTo L k ≤ b := by
  induction k with
  | zero => simp [mxTo]; exact hb
  | succ k ih => have := h k; simp only [mxTo]; omega
theorem mxTo_congr {L M : List Int} {k : Nat} (h : ∀ j, j < k → ia L j = ia M j) : mxTo L k = mxTo M k := by
  induction k with
  | zero => rfl
  | succ k ih => simp only [mxTo]; rw [ih (fun j hj => h j (by omega)), h k (by omega)]
theorem mx_snoc (L : List Int) : mxL (L ++ [-1]) = mxL L := by
  unfold mxL
  rw [List.length_append]
  simp only [List.length_cons, List.length_nil, Nat.zero_add, mxTo]
  have h1 : ia (L ++ [-1]) L.length = -1 := by simp [ia, List.getD_eq_getElem?_getD]
  rw [h1, mxTo_congr (M := L) fun j hj => by simp [ia, List.getD_eq_getElem?_getD, List.getElem?_append_left hj]]
  have : -1 ≤ mxTo L L.length := by
    generalize L.length = k
    induction k with
    | zero => simp [mxTo]
    | succ k ih => simp only [mxTo]; omega
  omega

set_option maxRecDepth 100000 in
set_option maxHeartbeats 1000000 in
theorem max_any (A : Option Addr) (n c : Nat) (L : List Int) (w : World) (hnl : n = L.length) (hr : Rd w A (ints L)) (hn : 0 < L.length) (hm : L.length ≤ 140737488355328) (h1 : ∀ j, -1 ≤ ia L j) :
    Calls Try.prog 57 #[.slice A n c] w fun e w' => e = .returned (.int .i64 (mxL L)) ∧ w = w' := by
  subst hnl
  obtain ⟨b, off, rfl, hc⟩ := hr.int hn
  have h0 := hc 0 hn
  simp only [Nat.add_zero] at h0
  have hlt1 : decide ((L.length : Int) < 1) = false := by simp; omega
  go_enter Try.func57, Try.ntmps57
  go_wp2_with fail
  have H := Lib.hid hc; clear hc h0
  go_loopg [3, 4] (L.length - 1) (fun g s3 s4 wr => ∃ k : Nat, 1 ≤ k ∧ k ≤ L.length ∧ g = L.length - k ∧ s4 = .int .i64 k ∧ s3 = .int .i64 (mxTo L k) ∧ w = wr)
  case atStart => exact ⟨1, by omega, by omega, rfl, rfl, by rw [show mxTo L 1 = ia L 0 from by have := h1 0; simp [mxTo]; omega], rfl⟩
  case round =>
    obtain ⟨k, hk1, hk, rfl, rfl, rfl, rfl⟩ := hrel
    by_cases hlt : k < L.length
    · have hk0 := H.out k hlt
      go_wp2_with fail
      all_goals
        go_roundg (L.length - (k + 1))
        case rel => exact ⟨k + 1, by omega, by omega, rfl, by go_num, congrArg (Value.int .i64) (by simp only [mxTo]; omega), rfl⟩
        case measure => omega
    · have : k = L.length := by omega
      subst this
      go_wp2_with fail
      go_ret
      exact ⟨rfl, rfl⟩
set_option maxRecDepth 100000 in
set_option maxHeartbeats 1000000 in
theorem length_any (i s : Int) (A : Option Addr) (c : Nat) (l : List Nd) (w : World) (hl : l.length ≤ 140737488355328) (hr : RN w A l) :
    Calls Try.prog 17 #[.agg #[.int .i64 i, .int .i64 s, .slice A l.length c]] w fun e w' => e = .returned (.int .i64 (if validB i s l then lenB s l else -1)) ∧ Kept w w' := by
  have o0 := Own.new w 24 [.int .i64 i, .int .i64 s, .slice A l.length c]
  cases hv : validB i s l
  · go_enter Try.func17, Try.ntmps17
    go_wp2_with fail
    refine (valid_any _ _ _ _ _ _ hl (hr.kept (kept_alloc (kept_refl _) _))).mono ?_
    rintro e w1 ⟨rfl, k1⟩
    rw [hv]
    go_wp2_with fail
    go_ret
    exact ⟨rfl, kept_trans (kept_alloc (kept_refl _) _) k1⟩
  · obtain ⟨hi0, hi1, hln, hs⟩ := valid_start hv
    have hz : ∀ j, -1 ≤ ia (lv s l ++ [-1]) j := by
      intro j
      have h1 := lvTo_small s l l.length j
      have h2 : ia (lv s l ++ [-1]) j = ia (lv s l) j ∨ ia (lv s l ++ [-1]) j = -1 ∨ ia (lv s l ++ [-1]) j = 0 := by
        unfold ia
        simp only [List.getD_eq_getElem?_getD, List.getElem?_append]
        split
        · exact .inl rfl
        · rcases Nat.eq_zero_or_pos (j - (lv s l).length) with h | h
          · rw [h]; exact .inr (.inl rfl)
          · rw [List.getElem?_eq_none (by simp only [List.length_cons, List.length_nil]; omega)]; exact .inr (.inr rfl)
      unfold lv at h2 ⊢
      omega
    go_enter Try.func17, Try.ntmps17
    go_wp2_with fail
    refine (valid_any _ _ _ _ _ _ hl (hr.kept (kept_alloc (kept_refl _) _))).mono ?_
    rintro e w1 ⟨rfl, k1⟩
    rw [hv]
    replace o0 := o0.kept k1
    replace k1 := kept_trans (kept_alloc (kept_refl _) _) k1
    have q0 := o0.cell (j := 0) rfl
    have q1 := o0.cell (j := 1) rfl
    have q2 := o0.cell (j := 2) rfl
    go_wp2_with fail
    refine (levels_any _ _ _ _ _ _ (hr.kept k1) hv).mono ?_
    rintro e w2 ⟨g, rfl, hg, ho, k2⟩
    clear q0 q1 q2
    have hr2 := ho.row w1.heap.size 1 l.length hg (by simp) (by omega)
    have s1 := k1.size
    have s2 := k2.size
    go_wp2_with (at_builtin; refine app_int w1.heap.size rfl (.tmp 7) (.tmp 8) 36 3 rfl Try.underlying36 info3 (.slice (some ⟨g, 0, none⟩) l.length l.length) l.length (lv s l) (-1) rfl rfl hr2 s2 (by omega) ?_; intro v3 w3 hr3 hg3 hat3)
    have k3 : Kept w w3 := kept_grown (kept_trans k1 k2) hr2 s1 hg3
    obtain ⟨A3, c3, rfl, hr4⟩ := row_form hr3
    clear hr3
    refine (max_any _ _ _ _ _ (by simp) (row_rd hr4) (by simp) (by simp; omega) hz).mono ?_
    rintro e w4 ⟨rfl, rfl⟩
    rw [mx_snoc]
    have hm := mxTo_le (L := lv s l) (b := 2 * l.length) (fun j => (lvTo_small s l l.length j).2) (by omega) (lv s l).length
    have hm1 : -1 ≤ mxL (lv s l) := hm.1
    have hm2 : mxL (lv s l) ≤ 2 * l.length := hm.2
    clear hm
    go_wp2_with fail
    go_ret
    exact ⟨rfl, k3⟩

set_option maxRecDepth 100000 in
set_option maxHeartbeats 1000000 in
theorem rlength_any (i s : Int) (A : Option Addr) (c : Nat) (l : List Nd) (w : World) (hr : RN w A l) (hv : validB i s l = true) :
    Calls Try.prog 20 #[.agg #[.int .i64 i, .int .i64 s, .slice A l.length c]] w fun e w' => e = .returned (.int .i64 (lenB s l)) ∧ Kept w w' := by
  obtain ⟨hi0, hi1, hln, hs⟩ := valid_start hv
  go_enter Try.func20, Try.ntmps20
  go_wp2_with fail
  refine (rlevels_any _ _ _ _ _ _ (hr.kept (kept_alloc (kept_refl _) _)) hv).mono ?_
  rintro e w1 ⟨g, rfl, hg, ho, k1⟩
  replace k1 := kept_trans (kept_alloc (kept_refl _) _) k1
  go_wp2_with fail
  go_loopg [3, 5] l.length (fun g' s3 s5 wr => ∃ k : Nat, k ≤ l.length ∧ g' = l.length - k ∧ s5 = .int .i64 k ∧ s3 = .int .i64 (mxTo (lv s l) k + 1) ∧ w1 = wr)
  case atStart => exact ⟨0, by omega, rfl, rfl, rfl, rfl⟩
  case round =>
    obtain ⟨k, hk, rfl, rfl, rfl, rfl⟩ := hrel
    have hm := mxTo_le (L := lv s l) (b := 2 * l.length) (fun j => (lvTo_small s l l.length j).2) (by omega) k
    have h2 := lvTo_small s l l.length k
    rw [show lvTo s l l.length = lv s l from rfl] at h2
    by_cases hlt : k < l.length
    · have hk0 := ho.int (j := k) (by simpa using hlt)
      go_wp2_with fail
      all_goals
        go_roundg (l.length - (k + 1))
        case rel => exact ⟨k + 1, by omega, rfl, by go_num, congrArg (Value.int .i64) (by simp only [mxTo]; omega), rfl⟩
        case measure => omega
    · have : k = l.length := by omega
      subst this
      go_wp2_with fail
      go_ret
      exact ⟨by unfold lenB mxL; rw [lv_length]; rfl, k1⟩
end Go.Proofs.Ytinpmdekdfgiiaa
