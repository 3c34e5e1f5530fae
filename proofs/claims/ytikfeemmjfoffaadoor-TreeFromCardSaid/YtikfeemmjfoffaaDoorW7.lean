/- Trees: few values; two trees compared. -/
import Derived.Test.YtikfeemmjfoffaaDoorW6
set_option linter.unusedVariables false
set_option linter.unusedSimpArgs false
namespace Go.Proofs.YtikfeemmjfoffaaDoor
open Go.RowKit

/-- The number of values, counted until there are too many. -/
def fewN (most : Int) : Int → List (List Int) → Int
  | n, [] => n
  | n, l :: r => if n ≤ most then fewN most (n + l.length) r else n
def fewB (most : Int) (t : Tr) : Bool := decide (fewN most ((t.lv.length : Int) + t.tb.length) t.tb ≤ most)
theorem fewN_over {most n : Int} (h : most < n) : ∀ ls, fewN most n ls = n
  | [] => rfl
  | l :: r => by rw [fewN, if_neg (by omega)]
theorem fewN_le {most : Int} : ∀ (ls : List (List Int)) (n : Int), fewN most n ls ≤ most → n + (ls.map List.length).sum ≤ most
  | [], n, h => by simpa [fewN] using h
  | l :: r, n, h => by
    rw [fewN] at h
    by_cases h1 : n ≤ most
    · rw [if_pos h1] at h
      have := fewN_le r _ h
      simp only [List.map_cons, List.sum_cons]
      omega
    · rw [if_neg h1] at h
      omega
theorem fewB_len {most : Int} {t : Tr} (h : fewB most t = true) : (t.lv.length : Int) + t.tb.length + (t.tb.map List.length).sum ≤ most := fewN_le _ _ (of_decide_eq_true h)
theorem fewN_step {most n : Int} {ls : List (List Int)} {k : Nat} (h : k < ls.length) (h1 : n ≤ most) : fewN most n (ls.drop k) = fewN most (n + (ls.getD k []).length) (ls.drop (k + 1)) := by
  rw [List.drop_eq_getElem_cons h, fewN, if_pos h1, List.getD_eq_getElem?_getD, List.getElem?_eq_getElem h]
  rfl

set_option maxRecDepth 100000 in
set_option maxHeartbeats 1000000 in
theorem few7_any (most : Int) (hm0 : 0 ≤ most) (hm : most ≤ 1000000) (t : Tr) (A : Option Addr) (c : Nat) (T : Option Addr) (d : Nat) (w : World) (hT : RT w T t.tb) (hl : t.lv.length ≤ 140737488355328) (ht : t.tb.length ≤ 140737488355328) :
    Calls Tryd.prog 7 #[trV t A c T d, .int .i64 most] w fun e w' => e = .returned (.bool (fewB most t)) ∧ Kept w w' := by
  have o0 := Own.new w 25 [.int .i64 t.h, .int .i64 t.b, .slice A t.lv.length c, .slice T t.tb.length d]
  obtain ⟨F, hF⟩ : ∃ F, F = fewB most t := ⟨_, rfl⟩
  rw [← hF]
  have HF := Lib.hid hF; clear hF
  go_enter Tryd.func7, Tryd.ntmps7
  go_wp2_with fail
  go_loopg [5, 6] t.tb.length (fun g' s5 s6 wr => ∃ (k : Nat) (n : Int), k ≤ t.tb.length ∧ 0 ≤ n ∧ n ≤ 1000000000000000 ∧ fewN most ((t.lv.length : Int) + t.tb.length) t.tb = fewN most n (t.tb.drop k) ∧ g' = t.tb.length - k ∧ s5 = .int .i64 n ∧ s6 = .int .i64 k ∧ Kept w wr ∧ Own wr w.heap.size 25 [.int .i64 t.h, .int .i64 t.b, .slice A t.lv.length c, .slice T t.tb.length d])
  case atStart => exact ⟨0, _, by omega, by omega, by omega, by rw [List.drop_zero], by omega, rfl, rfl, kept_alloc (kept_refl _) _, o0⟩
  case round =>
    clear o0
    obtain ⟨k, n, hk, hn0, hn1, hN, rfl, rfl, rfl, k1, o0⟩ := hrel
    have HN := Lib.hid hN; clear hN
    have q0 := o0.cell (j := 0) rfl; have q1 := o0.cell (j := 1) rfl; have q2 := o0.cell (j := 2) rfl; have q3 := o0.cell (j := 3) rfl
    by_cases hlt : k < t.tb.length
    · by_cases hm1 : n ≤ most
      · obtain ⟨tb1, toff, A1, c1, rfl, t0, r1, l1⟩ := (hT.kept k1) k hlt
        clear r1
        have hs := fewN_step hlt hm1
        obtain ⟨L, hL⟩ : ∃ L, L = t.tb.getD k [] := ⟨_, rfl⟩
        rw [← hL] at t0 l1 hs
        have HS := Lib.hid hs; clear hs hL
        go_wp2_with fail
        go_roundg (t.tb.length - (k + 1))
        case rel => exact ⟨k + 1, n + L.length, by omega, by omega, by omega, by rw [HN.out, HS.out], rfl, rfl, by go_num, k1, o0⟩
        case measure => omega
      · have d1 : decide (n ≤ most) = false := decide_eq_false hm1
        have hov := fewN_over (most := most) (n := n) (by omega) (t.tb.drop k)
        have HO := Lib.hid (And.intro hov hm1); clear hov hm1
        go_wp2_with fail
        go_ret
        exact ⟨ret_bool (by rw [HF.out]; symm; apply decide_eq_false; rw [HN.out, HO.out.1]; have := HO.out.2; omega), k1⟩
    · have : k = t.tb.length := by omega
      subst this
      have hov : fewN most n (t.tb.drop t.tb.length) = n := by rw [List.drop_length]; rfl
      have HO := Lib.hid hov; clear hov
      go_wp2_with fail
      all_goals
        go_ret
        exact ⟨ret_bool (by rw [HF.out]; unfold fewB; rw [HN.out, HO.out]), k1⟩

theorem Tr.ext' {t u : Tr} (h1 : t.h = u.h) (h2 : t.b = u.b) (h3 : t.lv = u.lv) (h4 : t.tb = u.tb) : t = u := by
  cases t; cases u; simp_all

set_option maxRecDepth 100000 in
set_option maxHeartbeats 1000000 in
theorem same15_any (t u : Tr) (A : Option Addr) (c : Nat) (T : Option Addr) (d : Nat) (A' : Option Addr) (c' : Nat) (T' : Option Addr) (d' : Nat) (w : World) (hA : Rd w A (ints t.lv)) (hT : RT w T t.tb) (hA' : Rd w A' (ints u.lv)) (hT' : RT w T' u.tb) (hl : t.lv.length ≤ 140737488355328) (ht : t.tb.length ≤ 140737488355328) :
    Calls Tryd.prog 15 #[trV t A c T d, trV u A' c' T' d'] w fun e w' => e = .returned (.bool (decide (t = u))) ∧ Kept w w' := by
  have o0 := (Own.new w 25 [.int .i64 t.h, .int .i64 t.b, .slice A t.lv.length c, .slice T t.tb.length d]).alloc (.cells #[.int .i64 u.h, .int .i64 u.b, .slice A' u.lv.length c', .slice T' u.tb.length d'] 25)
  have p0 := Own.new (w.alloc (.cells #[.int .i64 t.h, .int .i64 t.b, .slice A t.lv.length c, .slice T t.tb.length d] 25)) 25 [.int .i64 u.h, .int .i64 u.b, .slice A' u.lv.length c', .slice T' u.tb.length d']
  have ez : (w.alloc (.cells #[.int .i64 t.h, .int .i64 t.b, .slice A t.lv.length c, .slice T t.tb.length d] 25)).heap.size = w.heap.size + 1 := by simp
  rw [ez] at p0
  have K0 := kept_alloc (kept_alloc (kept_refl w) (.cells #[.int .i64 t.h, .int .i64 t.b, .slice A t.lv.length c, .slice T t.tb.length d] 25)) (.cells #[.int .i64 u.h, .int .i64 u.b, .slice A' u.lv.length c', .slice T' u.tb.length d'] 25)
  obtain ⟨F, hF⟩ : ∃ F, F = decide (t = u) := ⟨_, rfl⟩
  rw [← hF]
  have HF := Lib.hid (show t ≠ u → F = false from fun h => by rw [hF]; exact decide_eq_false h)
  have HT := Lib.hid (show t = u → F = true from fun h => by rw [hF]; exact decide_eq_true h)
  clear hF ez
  have q0 := o0.cell (j := 0) rfl; have q1 := o0.cell (j := 1) rfl; have q2 := o0.cell (j := 2) rfl; have q3 := o0.cell (j := 3) rfl
  have r0 := p0.cell (j := 0) rfl; have r1 := p0.cell (j := 1) rfl; have r2 := p0.cell (j := 2) rfl; have r3 := p0.cell (j := 3) rfl
  by_cases c1 : t.h = u.h
  rotate_left
  · have d1 : (t.h != u.h) = true := by simpa using c1
    have HC := Lib.hid c1; clear c1
    go_enter Tryd.func15, Tryd.ntmps15
    go_wp2_with fail
    go_ret
    exact ⟨ret_bool (HF.out fun h => HC.out (by rw [h])).symm, K0⟩
  have d1 : (t.h != u.h) = false := by simpa using c1
  by_cases c2 : t.b = u.b
  rotate_left
  · have d2 : (t.b != u.b) = true := by simpa using c2
    have HC := Lib.hid c2; clear c1 c2
    go_enter Tryd.func15, Tryd.ntmps15
    go_wp2_with fail
    go_ret
    exact ⟨ret_bool (HF.out fun h => HC.out (by rw [h])).symm, K0⟩
  have d2 : (t.b != u.b) = false := by simpa using c2
  by_cases c3 : t.lv.length = u.lv.length
  rotate_left
  · have d3 : (t.lv.length != u.lv.length) = true := by simpa using c3
    have d3' : ((t.lv.length : Int) != (u.lv.length : Int)) = true := by simp; omega
    have HC := Lib.hid c3; clear c1 c2 c3
    go_enter Tryd.func15, Tryd.ntmps15
    go_wp2_with fail
    go_ret
    exact ⟨ret_bool (HF.out fun h => HC.out (by rw [h])).symm, K0⟩
  have d3 : (t.lv.length != u.lv.length) = false := by simpa using c3
  have d3' : ((t.lv.length : Int) != (u.lv.length : Int)) = false := by simp; omega
  by_cases c4 : t.tb.length = u.tb.length
  rotate_left
  · have d4 : (t.tb.length != u.tb.length) = true := by simpa using c4
    have d4' : ((t.tb.length : Int) != (u.tb.length : Int)) = true := by simp; omega
    have HC := Lib.hid c4; clear c1 c2 c3 c4
    go_enter Tryd.func15, Tryd.ntmps15
    go_wp2_with fail
    go_ret
    exact ⟨ret_bool (HF.out fun h => HC.out (by rw [h])).symm, K0⟩
  have d4 : (t.tb.length != u.tb.length) = false := by simpa using c4
  have d4' : ((t.tb.length : Int) != (u.tb.length : Int)) = false := by simp; omega
  have HC := Lib.hid (And.intro c1 (And.intro c2 (And.intro c3 c4))); clear c1 c2 c3 c4
  have HA := Lib.hid hA; have HA' := Lib.hid hA'; have HTT := Lib.hid hT; have HT' := Lib.hid hT'; clear hA hA' hT hT'
  go_enter Tryd.func15, Tryd.ntmps15
  go_wp2_with fail
  clear q0 q1 q2 q3 r0 r1 r2 r3 d1 d2 d3 d4 d3' d4'
  go_loopg [5] t.lv.length (fun g' s5 wr => ∃ k : Nat, k ≤ t.lv.length ∧ (∀ j, j < k → ia t.lv j = ia u.lv j) ∧ g' = t.lv.length - k ∧ s5 = .int .i64 k ∧ Kept w wr ∧ Own wr w.heap.size 25 [.int .i64 t.h, .int .i64 t.b, .slice A t.lv.length c, .slice T t.tb.length d] ∧ Own wr (w.heap.size + 1) 25 [.int .i64 u.h, .int .i64 u.b, .slice A' u.lv.length c', .slice T' u.tb.length d'])
  case atStart => exact ⟨0, by omega, by omega, rfl, rfl, K0, o0, p0⟩
  case round =>
    clear K0 o0 p0
    obtain ⟨k, hk, hj, rfl, rfl, k1, o0, p0⟩ := hrel
    have HJ := Lib.hid hj; clear hj
    have q0 := o0.cell (j := 0) rfl; have q1 := o0.cell (j := 1) rfl; have q2 := o0.cell (j := 2) rfl; have q3 := o0.cell (j := 3) rfl
    have r0 := p0.cell (j := 0) rfl; have r1 := p0.cell (j := 1) rfl; have r2 := p0.cell (j := 2) rfl; have r3 := p0.cell (j := 3) rfl
    by_cases hlt : k < t.lv.length
    · obtain ⟨b1, f1, rfl, h1⟩ := HA.out.int hlt
      have a0 := kept_cell k1 (h1 k hlt)
      have hlt2 : k < u.lv.length := by have := HC.out; omega
      obtain ⟨b2, f2, rfl, h2⟩ := HA'.out.int hlt2
      have a1 := kept_cell k1 (h2 k hlt2)
      clear h1 h2
      by_cases he : ia t.lv k = ia u.lv k
      · have e1 : (ia t.lv k == ia u.lv k) = true := by simp [he]
        have e2 : (ia t.lv k != ia u.lv k) = false := by simp [he]
        have HE := Lib.hid he; clear he
        go_wp2_with fail
        go_quiet (fail)
        go_wp2_with fail
        go_roundg (t.lv.length - (k + 1))
        case rel => exact ⟨k + 1, by omega, fun j h => by rcases Nat.lt_succ_iff_lt_or_eq.1 h with h | rfl; exact HJ.out j h; exact HE.out, rfl, by go_num, below_drewN k1 _, o0.drewN _, p0.drewN _⟩
        case measure => omega
      · have e1 : (ia t.lv k == ia u.lv k) = false := by simp [he]
        have e2 : (ia t.lv k != ia u.lv k) = true := by simp [he]
        have HE := Lib.hid he; clear he
        go_wp2_with fail
        go_quiet (fail)
        go_wp2_with fail
        go_ret
        exact ⟨ret_bool (HF.out fun h => HE.out (by rw [h])).symm, below_drewN k1 _⟩
    · have : k = t.lv.length := by omega
      subst this
      go_wp2_with fail
      have ELV := Lib.hid (list_eq_ia HC.out.2.2.1 HJ.out)
      clear HJ q0 q1 q2 q3 r0 r1 r2 r3
      obtain ⟨wo, rfl⟩ : ∃ wo : World, wo = wr := ⟨_, rfl⟩
      go_loopg [6, 7] t.tb.length (fun g' s6 s7 wr => ∃ k : Nat, k ≤ t.tb.length ∧ (∀ j, j < k → t.tb.getD j [] = u.tb.getD j []) ∧ g' = t.tb.length - k ∧ s6 = .int .i64 k ∧ Kept w wr ∧ Own wr w.heap.size 25 [.int .i64 t.h, .int .i64 t.b, .slice A t.lv.length c, .slice T t.tb.length d] ∧ Own wr (w.heap.size + 1) 25 [.int .i64 u.h, .int .i64 u.b, .slice A' u.lv.length c', .slice T' u.tb.length d'])
      case atStart => exact ⟨0, by omega, by omega, rfl, rfl, k1, o0, p0⟩
      case round =>
        clear k1 o0 p0
        obtain ⟨k, hk, hj, rfl, rfl, k1, o0, p0⟩ := hrel
        have HJ := Lib.hid hj; clear hj
        have q0 := o0.cell (j := 0) rfl; have q1 := o0.cell (j := 1) rfl; have q2 := o0.cell (j := 2) rfl; have q3 := o0.cell (j := 3) rfl
        have r0 := p0.cell (j := 0) rfl; have r1 := p0.cell (j := 1) rfl; have r2 := p0.cell (j := 2) rfl; have r3 := p0.cell (j := 3) rfl
        by_cases hlt : k < t.tb.length
        · obtain ⟨tb1, toff, A1, c1, rfl, t0, R1, l1⟩ := (HTT.out.kept k1) k hlt
          have hlt2 : k < u.tb.length := by have := HC.out; omega
          obtain ⟨tb2, toff2, A2, c2, rfl, t2, R2, l2⟩ := (HT'.out.kept k1) k hlt2
          obtain ⟨L, hL⟩ : ∃ L, L = t.tb.getD k [] := ⟨_, rfl⟩
          obtain ⟨M, hM⟩ : ∃ M, M = u.tb.getD k [] := ⟨_, rfl⟩
          rw [← hL] at t0 R1 l1
          rw [← hM] at t2 R2 l2
          have HLM := Lib.hid (And.intro hL hM); clear hL hM
          by_cases c5 : L.length = M.length
          rotate_left
          · have d5 : (L.length != M.length) = true := by simpa using c5
            have d5' : ((L.length : Int) != (M.length : Int)) = true := by simp; omega
            have HE := Lib.hid c5; clear c5
            go_wp2_with fail
            go_quiet (fail)
            go_wp2_with fail
            go_ret
            exact ⟨ret_bool (HF.out fun h => HE.out (by rw [HLM.out.1, HLM.out.2, h])).symm, below_drewN k1 _⟩
          have d5 : (L.length != M.length) = false := by simpa using c5
          have d5' : ((L.length : Int) != (M.length : Int)) = false := by simp; omega
          have HE5 := Lib.hid c5; clear c5
          go_wp2_with fail
          go_quiet (fail)
          have k2 : Kept w (wr.drewN nq) := below_drewN k1 _
          have o2 := o0.drewN nq; have p2 := p0.drewN nq
          have R1' := Lib.hid (R1.kept (below_drewN (kept_refl wr) nq)); have R2' := Lib.hid (R2.kept (below_drewN (kept_refl wr) nq))
          have T0 := kept_cell (below_drewN (kept_refl wr) nq) t0; have T2 := kept_cell (below_drewN (kept_refl wr) nq) t2
          generalize wr.drewN nq = wi at *
          clear t0 t2 R1 R2 o0 p0 k1 q0 q1 q2 q3 r0 r1 r2 r3
          go_wp2_with fail
          go_loopg [7] L.length (fun g' s7 wr => ∃ i : Nat, i ≤ L.length ∧ (∀ j, j < i → ia L j = ia M j) ∧ g' = L.length - i ∧ s7 = .int .i64 i ∧ Kept wi wr)
          case atStart => exact ⟨0, by omega, by omega, rfl, rfl, kept_refl _⟩
          case round =>
            obtain ⟨i, hi, hj2, rfl, rfl, k3⟩ := hrel
            have HJ2 := Lib.hid hj2; clear hj2
            have o3 := o2.kept k3; have p3 := p2.kept k3
            have q0 := o3.cell (j := 0) rfl; have q1 := o3.cell (j := 1) rfl; have q2 := o3.cell (j := 2) rfl; have q3 := o3.cell (j := 3) rfl
            have r0 := p3.cell (j := 0) rfl; have r1 := p3.cell (j := 1) rfl; have r2 := p3.cell (j := 2) rfl; have r3 := p3.cell (j := 3) rfl
            have t0 := kept_cell k3 T0; have t2 := kept_cell k3 T2
            by_cases hlt3 : i < L.length
            · obtain ⟨b1, f1, rfl, h1⟩ := R1'.out.int hlt3
              have a0 := kept_cell k3 (h1 i hlt3)
              have hlt4 : i < M.length := by have := HE5.out; omega
              obtain ⟨b2, f2, rfl, h2⟩ := R2'.out.int hlt4
              have a1 := kept_cell k3 (h2 i hlt4)
              clear h1 h2
              by_cases he : ia L i = ia M i
              · have e1 : (ia L i == ia M i) = true := by simp [he]
                have e2 : (ia L i != ia M i) = false := by simp [he]
                have HE := Lib.hid he; clear he
                go_wp2_with fail
                go_quiet (fail)
                go_wp2_with fail
                go_roundg (L.length - (i + 1))
                case rel => exact ⟨i + 1, by omega, fun j h => by rcases Nat.lt_succ_iff_lt_or_eq.1 h with h | rfl; exact HJ2.out j h; exact HE.out, rfl, by go_num, below_drewN k3 _⟩
                case measure => omega
              · have e1 : (ia L i == ia M i) = false := by simp [he]
                have e2 : (ia L i != ia M i) = true := by simp [he]
                have HE := Lib.hid he; clear he
                go_wp2_with fail
                go_quiet (fail)
                go_wp2_with fail
                go_ret
                exact ⟨ret_bool (HF.out fun h => HE.out (by rw [HLM.out.1, HLM.out.2, h])).symm, below_drewN (kept_trans k2 k3) _⟩
            · have : i = L.length := by omega
              subst this
              go_wp2_with fail
              have ELM := Lib.hid (list_eq_ia HE5.out HJ2.out)
              go_roundg (t.tb.length - (k + 1))
              case rel => exact ⟨k + 1, by omega, fun j h => by rcases Nat.lt_succ_iff_lt_or_eq.1 h with h | rfl; exact HJ.out j h; rw [← HLM.out.1, ← HLM.out.2]; exact ELM.out, rfl, by go_num, kept_trans k2 k3, o3, p3⟩
              case measure => omega
        · have : k = t.tb.length := by omega
          subst this
          go_wp2_with fail
          go_ret
          exact ⟨ret_bool (HT.out (Tr.ext' HC.out.1 HC.out.2.1 ELV.out (List.ext_getElem HC.out.2.2.2 fun j h1 h2 => by have := HJ.out j h1; simpa [List.getD_eq_getElem?_getD, h1, h2] using this))).symm, k1⟩
end Go.Proofs.YtikfeemmjfoffaaDoor
