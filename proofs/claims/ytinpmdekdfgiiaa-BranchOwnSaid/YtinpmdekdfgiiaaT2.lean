/- Formula of a valid program, with memory known block by block. -/
import Derived.Test.YtinpmdekdfgiiaaO6
import Derived.Test.YtinpmdekdfgiiaaT1
set_option linter.unusedVariables false
set_option linter.unusedSimpArgs false
namespace Go.Proofs.Ytinpmdekdfgiiaa
open Go.RowKit

def FtGood (f : Fm) (w : World) (e : Ending) (w' : World) : Prop := ∃ A c, e = .returned (.tuple #[fmV f A c, .int .i64 0]) ∧ TR w' w.heap.size A c f.l ∧ Kept w w'
set_option maxRecDepth 100000 in
set_option maxHeartbeats 6000000 in
theorem formula32_tr (n s : Int) (A : Option Addr) (c : Nat) (l : List Nd) (w : World) (hr : RN w A l) (hv : validB n s l = true) :
    Calls Try.prog 32 #[.agg #[.int .i64 n, .int .i64 s, .slice A l.length c]] w (fun e w' => if 0 ≤ s ∧ (20000 < (mn l s.toNat).1 ∨ 1000 < (mn l s.toNat).2) then FmBad 5 w e w' else FtGood (tf l s) w e w') := by
  obtain ⟨hi0, hi1, hln, hs⟩ := valid_start hv
  have hmk := make_ints l.length (by omega)
  have a0 := (Own.new w 24 [.int .i64 n, .int .i64 s, .slice A l.length c]).alloc (.cells #[.int .i64 0, .int .i64 0, .slice none 0 0] 52)
  have a1 := Own.new (w.alloc (.cells #[.int .i64 n, .int .i64 s, .slice A l.length c] 24)) 52 [.int .i64 0, .int .i64 0, .slice none 0 0]
  have ka := kept_alloc (kept_alloc (kept_refl w) (.cells #[.int .i64 n, .int .i64 s, .slice A l.length c] 24)) (.cells #[.int .i64 0, .int .i64 0, .slice none 0 0] 52)
  simp only [World.size_alloc] at a1
  have C16 := fun (w' : World) (k : Kept w w') => valid_any n s A c l w' (by omega) (hr.kept k)
  rw [hv] at C16
  replace C16 := Lib.hid C16
  have HV := Lib.hid hv
  have HS := Lib.hid hs
  obtain ⟨P, hP⟩ : ∃ P : Ending → World → Prop, P = (fun e w' => if 0 ≤ s ∧ (20000 < (mn l s.toNat).1 ∨ 1000 < (mn l s.toNat).2) then FmBad 5 w e w' else FtGood (tf l s) w e w') := ⟨_, rfl⟩
  rw [← hP]
  have HP := Lib.hid hP
  clear hP hv hs
  go_enter Try.func32, Try.ntmps32
  go_wp2_with fail
  refine (C16.out _ ka).mono ?_
  rintro e w1 ⟨rfl, k1⟩
  have z1 := k1.size
  simp only [World.size_alloc] at z1
  replace a0 := a0.kept k1; replace a1 := a1.kept k1; replace ka := kept_trans ka k1
  clear k1
  have q2 := a0.cell (j := 2) rfl
  go_upto_region 3 with (fail)
  go_cut [4, 5] (fun s4 s5 wx => ∃ b1 b2 : Nat, s4 = .slice (some ⟨b1, 0, none⟩) l.length l.length ∧ s5 = .slice (some ⟨b2, 0, none⟩) l.length l.length ∧ w.heap.size + 1 < b1 ∧ (b1 ≠ b2 ∧ w.heap.size + 1 < b2) ∧ FoEnv w wx b1 b2 n s A c l (mnL1 l l.length) (mnL2 l l.length))
  case first =>
    have zb := a0.lt
    go_region
    all_goals
      go_wp2_with fail
      have KW : Kept w1 ((w1.alloc (.cells (ints (List.replicate l.length 0)).toArray 3)).alloc (.cells (ints (List.replicate l.length 0)).toArray 3)).drew := kept_drew (kept_alloc (kept_alloc (kept_refl _) _) _)
      have oA := ((Own.new w1 3 (ints (List.replicate l.length 0))).alloc (.cells (ints (List.replicate l.length 0)).toArray 3)).drew
      have oB := (Own.new (w1.alloc (.cells (ints (List.replicate l.length 0)).toArray 3)) 3 (ints (List.replicate l.length 0))).drew
      simp only [World.size_alloc] at oB
      go_meet
    · exact ⟨_, _, rfl, rfl, by omega, by omega, a0.kept KW, a1.kept KW, by rw [mnL1, tl_all]; exact oA, by rw [mnL2, tl_all]; exact oB, kept_trans ka KW⟩
    · exact ⟨_, _, rfl, rfl, by omega, by omega, a0.kept KW, a1.kept KW, by rw [mnL1, tl_all]; exact oB, by rw [mnL2, tl_all]; exact oA, kept_trans ka KW⟩
  case rest =>
    obtain ⟨b1, b2, rfl, rfl, h1, h2, E⟩ := hcut
    clear a0 a1 ka z1 q2 hmk C16
    have q2 := E.o0.cell (j := 2) rfl
    go_wp2_with fail
    clear q2
    go_loopg [6] l.length (fun g v wr => ∃ j : Nat, j ≤ l.length ∧ g = j ∧ v = .int .i64 ((j : Int) - 1) ∧ FoEnv w wr b1 b2 n s A c l (mnL1 l j) (mnL2 l j))
    case atStart => exact ⟨l.length, Nat.le_refl _, rfl, by go_num, E⟩
    case round =>
      clear E
      obtain ⟨j, hj, hg, rfl, E⟩ := hrel
      replace hg := hg.symm
      subst hg
      have q0 := E.o0.cell (j := 0) rfl
      have q1 := E.o0.cell (j := 1) rfl
      have q2 := E.o0.cell (j := 2) rfl
      cases j with
      | zero =>
        obtain ⟨q, hq⟩ : ∃ q : Bool, q = decide (0 ≤ s ∧ (20000 < (mn l s.toNat).1 ∨ 1000 < (mn l s.toNat).2)) := ⟨_, rfl⟩
        have HQ := Lib.hid hq
        clear hq
        go_upto_region 21 with (fail)
        go_cut [150] (fun s150 wx => s150 = .bool q ∧ wx = wr)
        case first =>
          by_cases hs0 : 0 ≤ s
          · have hsl : s.toNat < l.length := by have := HS.out; omega
            have g2 : s < (l.length : Int) := by omega
            have c1 := E.m1.int (j := s.toNat) (by simpa using hsl)
            have c2 := E.m2.int (j := s.toNat) (by simpa using hsl)
            rw [tl_at hsl, if_pos (Nat.zero_le _)] at c1 c2
            have d0 : decide (0 ≤ s) = true := decide_eq_true hs0
            by_cases hm1 : 20000 < (mn l s.toNat).1
            · have d1 : decide ((20000 : Int) < (((mn l s.toNat).1 : Nat) : Int)) = true := decide_eq_true (by omega)
              have HM := Lib.hid hm1
              clear hm1
              go_wp2_with fail
              go_meet
              exact ⟨by rw [HQ.out, decide_eq_true ⟨hs0, .inl HM.out⟩], rfl⟩
            · have d1 : decide ((20000 : Int) < (((mn l s.toNat).1 : Nat) : Int)) = false := decide_eq_false (by omega)
              by_cases hm2 : 1000 < (mn l s.toNat).2
              · have d2 : decide ((1000 : Int) < (((mn l s.toNat).2 : Nat) : Int)) = true := decide_eq_true (by omega)
                have HM := Lib.hid hm2
                clear hm1 hm2
                go_wp2_with fail
                go_meet
                exact ⟨by rw [HQ.out, decide_eq_true ⟨hs0, .inr HM.out⟩], rfl⟩
              · have d2 : decide ((1000 : Int) < (((mn l s.toNat).2 : Nat) : Int)) = false := decide_eq_false (by omega)
                have HM := Lib.hid (And.intro hm1 hm2)
                clear hm1 hm2
                go_wp2_with fail
                go_meet
                exact ⟨by rw [HQ.out, decide_eq_false (fun h => h.2.elim HM.out.1 HM.out.2)], rfl⟩
          · have d0 : decide (0 ≤ s) = false := decide_eq_false hs0
            have HM := Lib.hid hs0
            clear hs0
            go_wp2_with fail
            go_meet
            exact ⟨by rw [HQ.out, decide_eq_false (fun h => by have := HM.out; omega)], rfl⟩
        case rest =>
          obtain ⟨rfl, rfl⟩ := hcut
          cases q with
          | true =>
            have e0 := E.oR.cell (j := 0) rfl
            have e1 := E.oR.cell (j := 1) rfl
            have e2 := E.oR.cell (j := 2) rfl
            have f0 := E.oR.frozen 0
            have f1 := E.oR.frozen 1
            have f2 := E.oR.frozen 2
            go_wp2_with fail
            have o3 := ((E.oR.set 0 (.int .i64 0)).set 1 (.int .i64 0)).set 2 (.slice none 0 0)
            have pk := kept_set (g := w.heap.size + 1) (j := 2) (kept_set (g := w.heap.size + 1) (j := 1) (kept_set (g := w.heap.size + 1) (j := 0) E.K (by omega) (.int .i64 0)) (by omega) (.int .i64 0)) (by omega) (.slice none 0 0)
            obtain ⟨W2, hW2⟩ : ∃ W2, W2 = ((wc.setCell ⟨w.heap.size + 1, 0, none⟩ (.int .i64 0)).setCell ⟨w.heap.size + 1, 1, none⟩ (.int .i64 0)).setCell ⟨w.heap.size + 1, 2, none⟩ (.slice none 0 0) := ⟨_, rfl⟩
            rw [← hW2] at pk o3 ⊢
            clear hW2 e0 e1 e2 q0 q1 q2
            have q0 := o3.cell (j := 0) rfl
            have q1 := o3.cell (j := 1) rfl
            have q2 := o3.cell (j := 2) rfl
            exact bodyPost_ret (v := .tuple #[.agg #[.int .i64 0, .int .i64 0, .slice none 0 0], .int .i64 5]) (by simp [results, Try.results32, go_sem, q0, q1, q2]) rfl (by rw [HP.out]; show (if _ then _ else _); rw [if_pos (of_decide_eq_true HQ.out.symm)]; exact ⟨rfl, pk⟩)
          | false =>
            have aF := (Own.new wc 87 [.func (.func 71) #[] #[]]).alloc (.cells #[.func (.func 72) #[] #[.pointer (some ⟨w.heap.size, 0, none⟩), .pointer (some ⟨wc.heap.size + 1, 0, none⟩), .pointer (some ⟨wc.heap.size, 0, none⟩)]] 88)
            have aG := Own.new (wc.alloc (.cells #[.func (.func 71) #[] #[]] 87)) 88 (#[.func (.func 72) #[] #[.pointer (some ⟨w.heap.size, 0, none⟩), .pointer (some ⟨wc.heap.size + 1, 0, none⟩), .pointer (some ⟨wc.heap.size, 0, none⟩)]]).toList
            have KG : Kept wc ((wc.alloc (.cells #[.func (.func 71) #[] #[]] 87)).alloc (.cells #[.func (.func 72) #[] #[.pointer (some ⟨w.heap.size, 0, none⟩), .pointer (some ⟨wc.heap.size + 1, 0, none⟩), .pointer (some ⟨wc.heap.size, 0, none⟩)]] 88)) := kept_alloc (kept_alloc (kept_refl wc) _) _
            simp only [World.size_alloc] at aG
            have zR := E.oR.lt
            have zO := E.o0.lt
            go_wp2_with fail
            obtain ⟨W4, hW4⟩ : ∃ x, x = (wc.alloc (.cells #[.func (.func 71) #[] #[]] 87)).alloc (.cells #[.func (.func 72) #[] #[.pointer (some ⟨w.heap.size, 0, none⟩), .pointer (some ⟨wc.heap.size + 1, 0, none⟩), .pointer (some ⟨wc.heap.size, 0, none⟩)]] 88) := ⟨_, rfl⟩
            have z4 : W4.heap.size = wc.heap.size + 2 := by rw [hW4]; simp
            rw [← hW4] at aF aG KG ⊢
            clear hW4 q0 q1 q2
            have o1 := E.o0.kept KG
            have oR := E.oR.kept KG
            have K4 := kept_trans E.K KG
            have hs := HS.out
            have C := of72_tr n s A c l HV.out w.heap.size (wc.heap.size + 1) wc.heap.size W4 o1 (hr.kept K4) (aG.cell (j := 0) rfl) (aF.cell (j := 0) rfl) l.length s W4 (by omega) (by omega) (kept_refl W4)
            clear hs
            unfold FtPost fmV at C
            (with_reducible refine C.mono ?_)
            rintro e w5 ⟨A5, c5, rfl, rk5, k5⟩
            generalize tf l s = ft at *
            have x5 := oR.kept k5
            have f0 := x5.frozen 0; have f1 := x5.frozen 1; have f2 := x5.frozen 2; have y0 := x5.cell (j := 0) rfl; have y1 := x5.cell (j := 1) rfl; have y2 := x5.cell (j := 2) rfl
            go_wp2_with fail
            have o9 := ((x5.set 0 (.int .i64 ft.k)).set 1 (.int .i64 ft.n)).set 2 (.slice A5 ft.l.length c5)
            have pk := kept_set (g := w.heap.size + 1) (j := 2) (kept_set (g := w.heap.size + 1) (j := 1) (kept_set (g := w.heap.size + 1) (j := 0) (kept_trans K4 k5) (by omega) (.int .i64 ft.k)) (by omega) (.int .i64 ft.n)) (by omega) (.slice A5 ft.l.length c5)
            have rk9 := ((rk5.set (g := w.heap.size + 1) (by omega) 0 (.int .i64 ft.k)).set (g := w.heap.size + 1) (by omega) 1 (.int .i64 ft.n)).set (g := w.heap.size + 1) (by omega) 2 (.slice A5 ft.l.length c5)
            obtain ⟨W9, hW9⟩ : ∃ W9, W9 = ((w5.setCell ⟨w.heap.size + 1, 0, none⟩ (.int .i64 ft.k)).setCell ⟨w.heap.size + 1, 1, none⟩ (.int .i64 ft.n)).setCell ⟨w.heap.size + 1, 2, none⟩ (.slice A5 ft.l.length c5) := ⟨_, rfl⟩
            rw [← hW9] at o9 pk rk9 ⊢
            clear hW9 x5 f0 f1 f2 y0 y1 y2
            have q0 := o9.cell (j := 0) rfl
            have q1 := o9.cell (j := 1) rfl
            have q2 := o9.cell (j := 2) rfl
            exact bodyPost_ret (v := .tuple #[.agg #[.int .i64 ft.k, .int .i64 ft.n, .slice A5 ft.l.length c5], .int .i64 0]) (by simp [results, Try.results32, go_sem, q0, q1, q2]) rfl (by rw [HP.out]; show (if _ then _ else _); rw [if_neg (of_decide_eq_false HQ.out.symm)]; exact ⟨A5, c5, rfl, rk9.mono (by omega), pk⟩)
      | succ i =>
        have hk : i < l.length := by omega
        have hnd := valid_node HV.out hk
        have heq := mn_eq HV.out hk
        obtain ⟨b, off, hA, hcs⟩ := hr.at_ hk
        subst hA
        obtain ⟨D0, D1, D2⟩ := hcs i hk
        clear hcs
        have d0 := kept_cell E.K D0
        have d1 := kept_cell E.K D1
        have d2 := kept_cell E.K D2
        have zb : b < wr.heap.size := kept_lt d0
        have f1 := E.m1.frozen i
        have f2 := E.m2.frozen i
        have c1 := E.m1.int (j := i) (by simpa using hk)
        have c2 := E.m2.int (j := i) (by simpa using hk)
        have y1 := E.m1.lt
        have y2 := E.m2.lt
        have g0 : (0 : Int) ≤ (i : Int) := by omega
        have g1 : (i : Int) < (l.length : Int) := by omega
        have hn1 := h2.1
        rw [show (((i + 1 : Nat) : Int) - 1) = (i : Int) from by omega]
        by_cases hzo : nz l i = no l i
        · have e1 : (nz l i == no l i) = true := beq_iff_eq.2 hzo
          by_cases hz0 : nz l i < 0
          · have hm : mn l i = (1, 1) := by rw [heq]; unfold mnK; rw [if_pos hzo, if_pos hz0]
            clear hzo
            have hz1 : ¬ 0 ≤ nz l i := by omega
            go_wp2_with fail
            go_roundg i
            case rel => exact ⟨i, by omega, rfl, by go_num, by
              have E2 := (E.set1 h1 h2 i 1).set2 h1 h2 i 1
              rw [mnL1, mnL2, ← tl_set (f := fun k => (((mn l k).1 : Nat) : Int)) hk, ← tl_set (f := fun k => (((mn l k).2 : Nat) : Int)) hk, hm]
              exact E2⟩
            case measure => omega
          · have hz1 : 0 ≤ nz l i := by omega
            have hm : mn l i = mn l (nz l i).toNat := by rw [heq]; unfold mnK; rw [if_pos hzo, if_neg hz0]
            clear hzo
            go_wp2_with fail
            have E2 := (E.set1 h1 h2 i 1).set2 h1 h2 i 1
            obtain ⟨w2, hw2⟩ : ∃ x, x = (wr.setCell ⟨b1, i, none⟩ (.int .i64 1)).setCell ⟨b2, i, none⟩ (.int .i64 1) := ⟨_, rfl⟩
            rw [← hw2] at E2 ⊢
            clear hw2 E q0 q1 q2 d0 d1 d2 f1 f2 c1 c2 y1 y2
            have f1 := E2.m1.frozen i
            have f2 := E2.m2.frozen i
            have y1 := E2.m1.lt
            have y2 := E2.m2.lt
            have c1 : w2.cell? ⟨b1, (nz l i).toNat, none⟩ = some (.int .i64 (((mn l (nz l i).toNat).1 : Nat) : Int)) := by have h := E2.m1.int (j := (nz l i).toNat) (by simp; omega); rwa [ia_set, if_neg (by omega), tl_at (by omega), if_pos (by omega)] at h
            have c2 : w2.cell? ⟨b2, (nz l i).toNat, none⟩ = some (.int .i64 (((mn l (nz l i).toNat).2 : Nat) : Int)) := by have h := E2.m2.int (j := (nz l i).toNat) (by simp; omega); rwa [ia_set, if_neg (by omega), tl_at (by omega), if_pos (by omega)] at h
            have g5 : nz l i < (l.length : Int) := by omega
            have x1 := E2.m1.int (j := i) (by simp; omega)
            have x2 := E2.m2.int (j := i) (by simp; omega)
            have E9 := (E2.kept (kept_drew (kept_refl w2))).set1 h1 h2 i (((mn l (nz l i).toNat).1 : Nat) : Int)
            have s1 := E9.m1.int (j := (nz l i).toNat) (by simp; omega)
            have s2 := E9.m2.int (j := (nz l i).toNat) (by simp; omega)
            rw [ia_set, if_neg (by omega), ia_set, if_neg (by omega), tl_at (by omega), if_pos (by omega)] at s1
            rw [ia_set, if_neg (by omega), tl_at (by omega), if_pos (by omega)] at s2
            refine region_x (fun w' => w'.cell? ⟨b1, (nz l i).toNat, none⟩ = some (.int .i64 (((mn l (nz l i).toNat).1 : Nat) : Int)) ∧ w'.cell? ⟨b2, (nz l i).toNat, none⟩ = some (.int .i64 (((mn l (nz l i).toNat).2 : Nat) : Int))) [15] (by kernel_rfl) ?_ (fun hHeld => ?_)
            · exact ⟨cell_drew c1, cell_drew c2⟩
            refine x_take (i := 0) (oi := { dst := some 54, op := Op.move (Operand.tmp 4), type := 36, pos := "branch.go:198", after := #[], guard := none }) (v := ?_) rfl (by kernel_rfl) (by kernel_rfl) (by kernel_rfl) (by kernel_rfl) (by kernel_rfl) (fun _ _ _ h => h) (Or.inl ⟨rfl, ?_⟩) (by assumption) ?_
            rotate_left
            · (intro w' hSw; obtain ⟨c1, c2⟩ := hSw; go_simp; try with_reducible rfl)
            try simp only [Act.put, List.setIfInBounds_toArray, List.set_cons_zero, List.set_cons_succ]
            refine x_take (i := 1) (oi := { dst := some 55, op := Op.move (Operand.tmp 6), type := 3, pos := "branch.go:198", after := #[], guard := none }) (v := ?_) rfl (by kernel_rfl) (by kernel_rfl) (by kernel_rfl) (by kernel_rfl) (by kernel_rfl) (fun _ _ _ h => h) (Or.inl ⟨rfl, ?_⟩) (by assumption) ?_
            rotate_left
            · (intro w' hSw; obtain ⟨c1, c2⟩ := hSw; go_simp; try with_reducible rfl)
            try simp only [Act.put, List.setIfInBounds_toArray, List.set_cons_zero, List.set_cons_succ]
            refine x_take (i := 2) (oi := { dst := some 56, op := Op.move (Operand.tmp 5), type := 36, pos := "branch.go:198", after := #[{ on := 13, ground := Ground.gcOnly Departure.lateStores }], guard := none }) (v := ?_) rfl (by kernel_rfl) (by kernel_rfl) (by kernel_rfl) (by kernel_rfl) (by kernel_rfl) (fun _ _ _ h => h) (Or.inl ⟨rfl, ?_⟩) (by assumption) ?_
            rotate_left
            · (intro w' hSw; obtain ⟨c1, c2⟩ := hSw; go_simp; try with_reducible rfl)
            try simp only [Act.put, List.setIfInBounds_toArray, List.set_cons_zero, List.set_cons_succ]
            refine x_take (i := 3) (oi := { dst := some 57, op := Op.move (Operand.tmp 6), type := 3, pos := "branch.go:198", after := #[{ on := 13, ground := Ground.gcOnly Departure.lateStores }], guard := none }) (v := ?_) rfl (by kernel_rfl) (by kernel_rfl) (by kernel_rfl) (by kernel_rfl) (by kernel_rfl) (fun _ _ _ h => h) (Or.inl ⟨rfl, ?_⟩) (by assumption) ?_
            rotate_left
            · (intro w' hSw; obtain ⟨c1, c2⟩ := hSw; go_simp; try with_reducible rfl)
            try simp only [Act.put, List.setIfInBounds_toArray, List.set_cons_zero, List.set_cons_succ]
            refine x_take (i := 4) (oi := { dst := some 58, op := Op.move (Operand.tmp 4), type := 36, pos := "branch.go:198", after := #[], guard := none }) (v := ?_) rfl (by kernel_rfl) (by kernel_rfl) (by kernel_rfl) (by kernel_rfl) (by kernel_rfl) (fun _ _ _ h => h) (Or.inl ⟨rfl, ?_⟩) (by assumption) ?_
            rotate_left
            · (intro w' hSw; obtain ⟨c1, c2⟩ := hSw; go_simp; try with_reducible rfl)
            try simp only [Act.put, List.setIfInBounds_toArray, List.set_cons_zero, List.set_cons_succ]
            refine x_take (i := 5) (oi := { dst := some 59, op := Op.move (Operand.tmp 7), type := 3, pos := "branch.go:198", after := #[], guard := none }) (v := ?_) rfl (by kernel_rfl) (by kernel_rfl) (by kernel_rfl) (by kernel_rfl) (by kernel_rfl) (fun _ _ _ h => h) (Or.inl ⟨rfl, ?_⟩) (by assumption) ?_
            rotate_left
            · (intro w' hSw; obtain ⟨c1, c2⟩ := hSw; go_simp; try with_reducible rfl)
            try simp only [Act.put, List.setIfInBounds_toArray, List.set_cons_zero, List.set_cons_succ]
            refine x_take (i := 6) (oi := { dst := some 60, op := Op.indexAddr 36 (Operand.tmp 58) (Operand.tmp 59), type := 0, pos := "branch.go:198", after := #[{ on := 4, ground := Ground.data }, { on := 5, ground := Ground.data }], guard := none }) (v := ?_) rfl (by kernel_rfl) (by kernel_rfl) (by kernel_rfl) (by kernel_rfl) (by kernel_rfl) (fun _ _ _ h => h) (Or.inl ⟨rfl, ?_⟩) (by assumption) ?_
            rotate_left
            · (intro w' hSw; obtain ⟨c1, c2⟩ := hSw; go_simp; try with_reducible rfl)
            try simp only [Act.put, List.setIfInBounds_toArray, List.set_cons_zero, List.set_cons_succ]
            refine x_take (i := 7) (oi := { dst := some 61, op := Op.load 3 (Operand.tmp 60), type := 3, pos := "branch.go:198", after := #[{ on := 6, ground := Ground.data }], guard := none }) (v := ?_) rfl (by kernel_rfl) (by kernel_rfl) (by kernel_rfl) (by kernel_rfl) (by kernel_rfl) (fun _ _ _ h => h) (Or.inl ⟨rfl, ?_⟩) (by assumption) ?_
            rotate_left
            · (intro w' hSw; obtain ⟨c1, c2⟩ := hSw; go_simp; try with_reducible rfl)
            try simp only [Act.put, List.setIfInBounds_toArray, List.set_cons_zero, List.set_cons_succ]
            refine x_take (i := 8) (oi := { dst := some 62, op := Op.move (Operand.tmp 5), type := 36, pos := "branch.go:198", after := #[], guard := none }) (v := ?_) rfl (by kernel_rfl) (by kernel_rfl) (by kernel_rfl) (by kernel_rfl) (by kernel_rfl) (fun _ _ _ h => h) (Or.inl ⟨rfl, ?_⟩) (by assumption) ?_
            rotate_left
            · (intro w' hSw; obtain ⟨c1, c2⟩ := hSw; go_simp; try with_reducible rfl)
            try simp only [Act.put, List.setIfInBounds_toArray, List.set_cons_zero, List.set_cons_succ]
            refine x_take (i := 9) (oi := { dst := some 63, op := Op.move (Operand.tmp 7), type := 3, pos := "branch.go:198", after := #[], guard := none }) (v := ?_) rfl (by kernel_rfl) (by kernel_rfl) (by kernel_rfl) (by kernel_rfl) (by kernel_rfl) (fun _ _ _ h => h) (Or.inl ⟨rfl, ?_⟩) (by assumption) ?_
            rotate_left
            · (intro w' hSw; obtain ⟨c1, c2⟩ := hSw; go_simp; try with_reducible rfl)
            try simp only [Act.put, List.setIfInBounds_toArray, List.set_cons_zero, List.set_cons_succ]
            refine x_take (i := 10) (oi := { dst := some 64, op := Op.indexAddr 36 (Operand.tmp 62) (Operand.tmp 63), type := 0, pos := "branch.go:198", after := #[{ on := 8, ground := Ground.data }, { on := 9, ground := Ground.data }], guard := none }) (v := ?_) rfl (by kernel_rfl) (by kernel_rfl) (by kernel_rfl) (by kernel_rfl) (by kernel_rfl) (fun _ _ _ h => h) (Or.inl ⟨rfl, ?_⟩) (by assumption) ?_
            rotate_left
            · (intro w' hSw; obtain ⟨c1, c2⟩ := hSw; go_simp; try with_reducible rfl)
            try simp only [Act.put, List.setIfInBounds_toArray, List.set_cons_zero, List.set_cons_succ]
            refine x_take (i := 11) (oi := { dst := some 65, op := Op.load 3 (Operand.tmp 64), type := 3, pos := "branch.go:198", after := #[{ on := 10, ground := Ground.data }], guard := none }) (v := ?_) rfl (by kernel_rfl) (by kernel_rfl) (by kernel_rfl) (by kernel_rfl) (by kernel_rfl) (fun _ _ _ h => h) (Or.inl ⟨rfl, ?_⟩) (by assumption) ?_
            rotate_left
            · (intro w' hSw; obtain ⟨c1, c2⟩ := hSw; go_simp; try with_reducible rfl)
            try simp only [Act.put, List.setIfInBounds_toArray, List.set_cons_zero, List.set_cons_succ]
            refine x_take (i := 12) (oi := { dst := some 66, op := Op.indexAddr 36 (Operand.tmp 54) (Operand.tmp 55), type := 0, pos := "branch.go:198", after := #[{ on := 0, ground := Ground.data }, { on := 1, ground := Ground.data }, { on := 0, ground := Ground.phase }, { on := 1, ground := Ground.phase }, { on := 2, ground := Ground.textOnly Departure.lateStores }, { on := 3, ground := Ground.textOnly Departure.lateStores }, { on := 4, ground := Ground.phase }, { on := 5, ground := Ground.phase }, { on := 6, ground := Ground.phase }, { on := 7, ground := Ground.phase }, { on := 8, ground := Ground.textOnly Departure.lateStores }, { on := 9, ground := Ground.textOnly Departure.lateStores }, { on := 10, ground := Ground.textOnly Departure.lateStoresUnsure }, { on := 11, ground := Ground.phase }], guard := none }) (v := ?_) rfl (by kernel_rfl) (by kernel_rfl) (by kernel_rfl) (by kernel_rfl) (by kernel_rfl) (fun _ _ _ h => h) (Or.inl ⟨rfl, ?_⟩) (by assumption) ?_
            rotate_left
            · (intro w' hSw; obtain ⟨c1, c2⟩ := hSw; go_simp; try with_reducible rfl)
            try simp only [Act.put, List.setIfInBounds_toArray, List.set_cons_zero, List.set_cons_succ]
            refine x_one (i := 13) (o := { dst := none, op := Op.store 3 (Operand.tmp 66) (Operand.tmp 61), type := 0, pos := "branch.go:198", after := #[{ on := 12, ground := Ground.data }, { on := 7, ground := Ground.data }, { on := 0, ground := Ground.phase }, { on := 1, ground := Ground.phase }, { on := 2, ground := Ground.textOnly Departure.lateStores }, { on := 3, ground := Ground.textOnly Departure.lateStores }, { on := 4, ground := Ground.phase }, { on := 5, ground := Ground.phase }, { on := 6, ground := Ground.phase }, { on := 7, ground := Ground.phase }, { on := 8, ground := Ground.textOnly Departure.lateStores }, { on := 9, ground := Ground.textOnly Departure.lateStores }, { on := 10, ground := Ground.textOnly Departure.lateStoresUnsure }, { on := 11, ground := Ground.phase }], guard := none }) (by kernel_rfl) rfl (fun K hK => ?_)
            go_simp
            refine hK.out _ _ ?_ (fun hHeld => ?_)
            · (try dsimp only); first | exact ⟨cell_drew c1, cell_drew c2⟩ | exact ⟨s1, s2⟩
            clear hK K
            try simp only [Act.put, List.setIfInBounds_toArray, List.set_cons_zero, List.set_cons_succ]
            refine x_take (i := 14) (oi := { dst := some 67, op := Op.indexAddr 36 (Operand.tmp 56) (Operand.tmp 57), type := 0, pos := "branch.go:198", after := #[{ on := 2, ground := Ground.data }, { on := 3, ground := Ground.data }, { on := 0, ground := Ground.phase }, { on := 1, ground := Ground.phase }, { on := 2, ground := Ground.phase }, { on := 3, ground := Ground.phase }, { on := 4, ground := Ground.phase }, { on := 5, ground := Ground.phase }, { on := 6, ground := Ground.phase }, { on := 7, ground := Ground.phase }, { on := 8, ground := Ground.phase }, { on := 9, ground := Ground.phase }, { on := 10, ground := Ground.phase }, { on := 11, ground := Ground.phase }, { on := 12, ground := Ground.phase }, { on := 13, ground := Ground.phase }], guard := none }) (v := ?_) rfl (by kernel_rfl) (by kernel_rfl) (by kernel_rfl) (by kernel_rfl) (by kernel_rfl) (fun _ _ _ h => h) (Or.inl ⟨rfl, ?_⟩) (by assumption) ?_
            rotate_left
            · (intro w' hSw; obtain ⟨c1, c2⟩ := hSw; go_simp; try with_reducible rfl)
            try simp only [Act.put, List.setIfInBounds_toArray, List.set_cons_zero, List.set_cons_succ]
            refine x_last (i := 15) (o := { dst := none, op := Op.store 3 (Operand.tmp 67) (Operand.tmp 65), type := 0, pos := "branch.go:198", after := #[{ on := 14, ground := Ground.data }, { on := 11, ground := Ground.data }, { on := 13, ground := Ground.chain }, { on := 0, ground := Ground.phase }, { on := 1, ground := Ground.phase }, { on := 2, ground := Ground.phase }, { on := 3, ground := Ground.phase }, { on := 4, ground := Ground.phase }, { on := 5, ground := Ground.phase }, { on := 6, ground := Ground.phase }, { on := 7, ground := Ground.phase }, { on := 8, ground := Ground.phase }, { on := 9, ground := Ground.phase }, { on := 10, ground := Ground.phase }, { on := 11, ground := Ground.phase }, { on := 12, ground := Ground.phase }, { on := 13, ground := Ground.phase }], guard := none }) (by kernel_rfl) rfl (by simp) (fun K hK => ?_)
            go_simp
            refine hK.out _ _ ?_
            clear hK K
            try simp only [Act.put, List.setIfInBounds_toArray, List.set_cons_zero, List.set_cons_succ]
            refine x_done (by kernel_rfl) ?_ _
            all_goals
              go_wp2_with fail
              go_roundg i
              case rel => exact ⟨i, by omega, rfl, by go_num, by
                have E3 := ((E2.set1 h1 h2 i (((mn l (nz l i).toNat).1 : Nat) : Int)).set2 h1 h2 i (((mn l (nz l i).toNat).2 : Nat) : Int)).kept (kept_drew (kept_refl _))
                rw [mnL1, mnL2, ← tl_set (f := fun k => (((mn l k).1 : Nat) : Int)) hk, ← tl_set (f := fun k => (((mn l k).2 : Nat) : Int)) hk, hm]
                simp only [List.set_set] at E3
                exact E3⟩
              case measure => omega
        · have e1 : (nz l i == no l i) = false := beq_eq_false_iff_ne.2 hzo
          go_wp2_with fail
          have E2 := (E.set1 h1 h2 i 6).set2 h1 h2 i 1
          obtain ⟨w2, hw2⟩ : ∃ x, x = (wr.setCell ⟨b1, i, none⟩ (.int .i64 6)).setCell ⟨b2, i, none⟩ (.int .i64 1) := ⟨_, rfl⟩
          rw [← hw2] at E2 ⊢
          clear hw2 E q0 q1 q2 d0 d1 d2 f1 f2 c1 c2 y1 y2
          have d1 := kept_cell E2.K D1
          have d2 := kept_cell E2.K D2
          have q2 := E2.o0.cell (j := 2) rfl
          have zb2 : b < w2.heap.size := kept_lt d1
          refine region_x (fun w' => Kept w2 w') [] (by kernel_rfl) (kept_drew (kept_refl _)) (fun hHeld => ?_)
          refine x_take (i := 0) (oi := { dst := some 74, op := Op.fieldAddr 24 (Operand.tmp 1) 2, type := 0, pos := "branch.go:203", after := #[], guard := none }) (v := ?_) rfl (by kernel_rfl) (by kernel_rfl) (by kernel_rfl) (by kernel_rfl) (by kernel_rfl) (fun _ _ _ h => h) (Or.inl ⟨rfl, ?_⟩) (by assumption) ?_
          rotate_left
          · (intro w' hSw; replace q2 := kept_cell hSw q2; replace d1 := kept_cell hSw d1; replace d2 := kept_cell hSw d2; go_simp; try with_reducible rfl)
          try simp only [Act.put, List.setIfInBounds_toArray, List.set_cons_zero, List.set_cons_succ]
          refine x_take (i := 1) (oi := { dst := some 75, op := Op.load 22 (Operand.tmp 74), type := 22, pos := "branch.go:203", after := #[{ on := 0, ground := Ground.data }], guard := none }) (v := ?_) rfl (by kernel_rfl) (by kernel_rfl) (by kernel_rfl) (by kernel_rfl) (by kernel_rfl) (fun _ _ _ h => h) (Or.inl ⟨rfl, ?_⟩) (by assumption) ?_
          rotate_left
          · (intro w' hSw; replace q2 := kept_cell hSw q2; replace d1 := kept_cell hSw d1; replace d2 := kept_cell hSw d2; go_simp; try with_reducible rfl)
          try simp only [Act.put, List.setIfInBounds_toArray, List.set_cons_zero, List.set_cons_succ]
          refine x_take (i := 2) (oi := { dst := some 76, op := Op.move (Operand.tmp 6), type := 3, pos := "branch.go:203", after := #[], guard := none }) (v := ?_) rfl (by kernel_rfl) (by kernel_rfl) (by kernel_rfl) (by kernel_rfl) (by kernel_rfl) (fun _ _ _ h => h) (Or.inl ⟨rfl, ?_⟩) (by assumption) ?_
          rotate_left
          · (intro w' hSw; replace q2 := kept_cell hSw q2; replace d1 := kept_cell hSw d1; replace d2 := kept_cell hSw d2; go_simp; try with_reducible rfl)
          try simp only [Act.put, List.setIfInBounds_toArray, List.set_cons_zero, List.set_cons_succ]
          refine x_take (i := 3) (oi := { dst := some 77, op := Op.indexAddr 22 (Operand.tmp 75) (Operand.tmp 76), type := 0, pos := "branch.go:203", after := #[{ on := 1, ground := Ground.data }, { on := 2, ground := Ground.data }], guard := none }) (v := ?_) rfl (by kernel_rfl) (by kernel_rfl) (by kernel_rfl) (by kernel_rfl) (by kernel_rfl) (fun _ _ _ h => h) (Or.inl ⟨rfl, ?_⟩) (by assumption) ?_
          rotate_left
          · (intro w' hSw; replace q2 := kept_cell hSw q2; replace d1 := kept_cell hSw d1; replace d2 := kept_cell hSw d2; go_simp; try with_reducible rfl)
          try simp only [Act.put, List.setIfInBounds_toArray, List.set_cons_zero, List.set_cons_succ]
          refine x_take (i := 4) (oi := { dst := some 78, op := Op.fieldAddr 48 (Operand.tmp 77) 1, type := 0, pos := "branch.go:203", after := #[{ on := 3, ground := Ground.data }], guard := none }) (v := ?_) rfl (by kernel_rfl) (by kernel_rfl) (by kernel_rfl) (by kernel_rfl) (by kernel_rfl) (fun _ _ _ h => h) (Or.inl ⟨rfl, ?_⟩) (by assumption) ?_
          rotate_left
          · (intro w' hSw; replace q2 := kept_cell hSw q2; replace d1 := kept_cell hSw d1; replace d2 := kept_cell hSw d2; go_simp; try with_reducible rfl)
          try simp only [Act.put, List.setIfInBounds_toArray, List.set_cons_zero, List.set_cons_succ]
          refine x_take (i := 5) (oi := { dst := some 79, op := Op.load 3 (Operand.tmp 78), type := 3, pos := "branch.go:203", after := #[{ on := 4, ground := Ground.data }], guard := none }) (v := ?_) rfl (by kernel_rfl) (by kernel_rfl) (by kernel_rfl) (by kernel_rfl) (by kernel_rfl) (fun _ _ _ h => h) (Or.inl ⟨rfl, ?_⟩) (by assumption) ?_
          rotate_left
          · (intro w' hSw; replace q2 := kept_cell hSw q2; replace d1 := kept_cell hSw d1; replace d2 := kept_cell hSw d2; go_simp; try with_reducible rfl)
          try simp only [Act.put, List.setIfInBounds_toArray, List.set_cons_zero, List.set_cons_succ]
          refine x_take (i := 6) (oi := { dst := some 80, op := Op.fieldAddr 24 (Operand.tmp 1) 2, type := 0, pos := "branch.go:203", after := #[], guard := none }) (v := ?_) rfl (by kernel_rfl) (by kernel_rfl) (by kernel_rfl) (by kernel_rfl) (by kernel_rfl) (fun _ _ _ h => h) (Or.inl ⟨rfl, ?_⟩) (by assumption) ?_
          rotate_left
          · (intro w' hSw; replace q2 := kept_cell hSw q2; replace d1 := kept_cell hSw d1; replace d2 := kept_cell hSw d2; go_simp; try with_reducible rfl)
          try simp only [Act.put, List.setIfInBounds_toArray, List.set_cons_zero, List.set_cons_succ]
          refine x_take (i := 7) (oi := { dst := some 81, op := Op.load 22 (Operand.tmp 80), type := 22, pos := "branch.go:203", after := #[{ on := 6, ground := Ground.data }], guard := none }) (v := ?_) rfl (by kernel_rfl) (by kernel_rfl) (by kernel_rfl) (by kernel_rfl) (by kernel_rfl) (fun _ _ _ h => h) (Or.inl ⟨rfl, ?_⟩) (by assumption) ?_
          rotate_left
          · (intro w' hSw; replace q2 := kept_cell hSw q2; replace d1 := kept_cell hSw d1; replace d2 := kept_cell hSw d2; go_simp; try with_reducible rfl)
          try simp only [Act.put, List.setIfInBounds_toArray, List.set_cons_zero, List.set_cons_succ]
          refine x_take (i := 8) (oi := { dst := some 82, op := Op.move (Operand.tmp 6), type := 3, pos := "branch.go:203", after := #[], guard := none }) (v := ?_) rfl (by kernel_rfl) (by kernel_rfl) (by kernel_rfl) (by kernel_rfl) (by kernel_rfl) (fun _ _ _ h => h) (Or.inl ⟨rfl, ?_⟩) (by assumption) ?_
          rotate_left
          · (intro w' hSw; replace q2 := kept_cell hSw q2; replace d1 := kept_cell hSw d1; replace d2 := kept_cell hSw d2; go_simp; try with_reducible rfl)
          try simp only [Act.put, List.setIfInBounds_toArray, List.set_cons_zero, List.set_cons_succ]
          refine x_take (i := 9) (oi := { dst := some 83, op := Op.indexAddr 22 (Operand.tmp 81) (Operand.tmp 82), type := 0, pos := "branch.go:203", after := #[{ on := 7, ground := Ground.data }, { on := 8, ground := Ground.data }], guard := none }) (v := ?_) rfl (by kernel_rfl) (by kernel_rfl) (by kernel_rfl) (by kernel_rfl) (by kernel_rfl) (fun _ _ _ h => h) (Or.inl ⟨rfl, ?_⟩) (by assumption) ?_
          rotate_left
          · (intro w' hSw; replace q2 := kept_cell hSw q2; replace d1 := kept_cell hSw d1; replace d2 := kept_cell hSw d2; go_simp; try with_reducible rfl)
          try simp only [Act.put, List.setIfInBounds_toArray, List.set_cons_zero, List.set_cons_succ]
          refine x_take (i := 10) (oi := { dst := some 84, op := Op.fieldAddr 48 (Operand.tmp 83) 2, type := 0, pos := "branch.go:203", after := #[{ on := 9, ground := Ground.data }], guard := none }) (v := ?_) rfl (by kernel_rfl) (by kernel_rfl) (by kernel_rfl) (by kernel_rfl) (by kernel_rfl) (fun _ _ _ h => h) (Or.inl ⟨rfl, ?_⟩) (by assumption) ?_
          rotate_left
          · (intro w' hSw; replace q2 := kept_cell hSw q2; replace d1 := kept_cell hSw d1; replace d2 := kept_cell hSw d2; go_simp; try with_reducible rfl)
          try simp only [Act.put, List.setIfInBounds_toArray, List.set_cons_zero, List.set_cons_succ]
          refine x_take (i := 11) (oi := { dst := some 85, op := Op.load 3 (Operand.tmp 84), type := 3, pos := "branch.go:203", after := #[{ on := 10, ground := Ground.data }], guard := none }) (v := ?_) rfl (by kernel_rfl) (by kernel_rfl) (by kernel_rfl) (by kernel_rfl) (by kernel_rfl) (fun _ _ _ h => h) (Or.inl ⟨rfl, ?_⟩) (by assumption) ?_
          rotate_left
          · (intro w' hSw; replace q2 := kept_cell hSw q2; replace d1 := kept_cell hSw d1; replace d2 := kept_cell hSw d2; go_simp; try with_reducible rfl)
          try simp only [Act.put, List.setIfInBounds_toArray, List.set_cons_zero, List.set_cons_succ]
          refine x_take (i := 14) (oi := { dst := some 88, op := Op.move (Operand.const (Value.int IntKind.i64 0)), type := 3, pos := "branch.go:203", after := #[], guard := none }) (v := ?_) rfl (by kernel_rfl) (by kernel_rfl) (by kernel_rfl) (by kernel_rfl) (by kernel_rfl) (fun _ _ _ h => h) (Or.inl ⟨rfl, ?_⟩) (by assumption) ?_
          rotate_left
          · (intro w' hSw; replace q2 := kept_cell hSw q2; replace d1 := kept_cell hSw d1; replace d2 := kept_cell hSw d2; go_simp; try with_reducible rfl)
          try simp only [Act.put, List.setIfInBounds_toArray, List.set_cons_zero, List.set_cons_succ]
          refine x_one (i := 12) (o := { dst := some 86, op := Op.buildSlice 36 2 #[(0, Operand.tmp 79), (1, Operand.tmp 85)], type := 36, pos := "branch.go:203", after := #[{ on := 5, ground := Ground.data }, { on := 11, ground := Ground.data }], guard := none }) (by kernel_rfl) rfl (fun K hK => ?_)
          go_simp
          refine hK.out _ _ ?_ (fun hHeld => ?_)
          · (try dsimp only); repeat (first | assumption | exact kept_refl _ | refine kept_drew ?_ | refine kept_alloc ?_ _ | refine kept_set ?_ (by omega) _)
          clear hK K
          try simp only [Act.put, List.setIfInBounds_toArray, List.set_cons_zero, List.set_cons_succ]
          refine x_take (i := 13) (oi := { dst := some 87, op := Op.call { callee := Callee.builtin Builtin.len, args := #[Operand.tmp 86], argTypes := #[36] }, type := 3, pos := "branch.go:203", after := #[{ on := 12, ground := Ground.data }], guard := none }) (v := ?_) rfl (by kernel_rfl) (by kernel_rfl) (by kernel_rfl) (by kernel_rfl) (by kernel_rfl) (fun _ _ _ h => h) (Or.inl ⟨rfl, ?_⟩) (by assumption) ?_
          rotate_left
          · (intro w' hSw; replace q2 := kept_cell hSw q2; replace d1 := kept_cell hSw d1; replace d2 := kept_cell hSw d2; go_simp; try with_reducible rfl)
          try simp only [Act.put, List.setIfInBounds_toArray, List.set_cons_zero, List.set_cons_succ]
          refine x_done (by kernel_rfl) ?_ _
          go_wp2_with fail
          have E4 := E2.kept (kept_drew (kept_alloc (kept_refl w2) (.cells #[.int .i64 (nz l i), .int .i64 (no l i)] 3)))
          have oK := (Own.new w2 3 [.int .i64 (nz l i), .int .i64 (no l i)]).drew
          have hB1 := E2.m1.lt
          have hB2 := E2.m2.lt
          obtain ⟨w3, hw3⟩ : ∃ x, x = (w2.alloc (.cells #[.int .i64 (nz l i), .int .i64 (no l i)] 3)).drew := ⟨_, rfl⟩
          obtain ⟨b3, hb3⟩ : ∃ x, x = w2.heap.size := ⟨_, rfl⟩
          rw [← hw3] at E4 oK ⊢
          rw [← hb3] at oK hB1 hB2 ⊢
          clear hw3 hb3 E2 d1 d2 q2 zb2 hHeld
          go_loopg [88] 2 (fun g v wx => ∃ (r : Nat) (m : Nat × Nat), r ≤ 2 ∧ g = 2 - r ∧ v = .int .i64 r ∧ Own wx b3 3 [.int .i64 (nz l i), .int .i64 (no l i)] ∧ (m = if r = 0 then (6, 1) else if r = 1 then mnA (nz l i) (mn l (nz l i).toNat) (6, 1) else mnA (no l i) (mn l (no l i).toNat) (mnA (nz l i) (mn l (nz l i).toNat) (6, 1))) ∧
            FoEnv w wx b1 b2 n s (some ⟨b, off, none⟩) c l ((mnL1 l (i + 1)).set i ((m.1 : Nat) : Int)) ((mnL2 l (i + 1)).set i ((m.2 : Nat) : Int)))
          case atStart => exact ⟨0, (6, 1), by omega, rfl, rfl, oK, rfl, E4⟩
          case round =>
            clear E4 oK
            obtain ⟨r, m, hr2, rfl, rfl, oK, hm, E4⟩ := hrel
            have x1 := E4.m1.int (j := i) (by simp; omega)
            have x2 := E4.m2.int (j := i) (by simp; omega)
            rw [ia_set, if_pos ⟨rfl, by simp; omega⟩] at x1 x2
            have f1 := E4.m1.frozen i
            have f2 := E4.m2.frozen i
            have y1 := E4.m1.lt
            have y2 := E4.m2.lt
            have p0 := oK.cell (j := 0) rfl
            have p1 := oK.cell (j := 1) rfl
            rcases (show r = 0 ∨ r = 1 ∨ r = 2 by omega) with rfl | rfl | rfl
            · rw [if_pos rfl] at hm
              have hb : m.1 ≤ 40001 := mb_le (l := l) (z := nz l i) (o := 0) (r := 0) (by first | exact .inl hm | exact .inr hm)
              by_cases hz0 : nz l i < 0
              · have hz1 : ¬ 0 ≤ nz l i := by omega
                have hA : mnA (nz l i) (mn l (nz l i).toNat) m = (m.1 + 1, m.2) := if_pos hz0
                have m3 : IntKind.i64.wrap (((m.1 : Nat) : Int) + 1) = ((m.1 : Nat) : Int) + 1 := IntWalk.i64_in _ (by omega)
                have HM := Lib.hid hm
                clear hm
                go_wp2_with fail
                go_roundg 1
                case rel => exact ⟨1, (m.1 + 1, m.2), by omega, rfl, by go_num, oK.other (by simp; omega) _, by rw [← hA, HM.out]; rfl, by
                  have E5 := E4.set1 h1 h2 i (((m.1 : Nat) : Int) + 1)
                  simp only [List.set_set] at E5
                  exact E5⟩
                case measure => omega
              · have hz1 : 0 ≤ nz l i := by omega
                have g5 : nz l i < (l.length : Int) := by omega
                have hA : mnA (nz l i) (mn l (nz l i).toNat) m = (min (m.1 + (mn l (nz l i).toNat).1) 40000, max m.2 (mn l (nz l i).toNat).2) := if_neg hz0
                have M1 : (mn l (nz l i).toNat).1 ≤ 40001 := (mn_le l l.length _).1
                have m3 : IntKind.i64.wrap (((m.1 : Nat) : Int) + (((mn l (nz l i).toNat).1 : Nat) : Int)) = ((m.1 : Nat) : Int) + (((mn l (nz l i).toNat).1 : Nat) : Int) := IntWalk.i64_in _ (by omega)
                have v1 := E4.m1.int (j := (nz l i).toNat) (by simp; omega)
                have v2 := E4.m2.int (j := (nz l i).toNat) (by simp; omega)
                rw [ia_set, if_neg (by omega), tl_at (by omega), if_pos (by omega)] at v1 v2
                have HM := Lib.hid hm
                clear hm
                go_wp2_with fail
                go_region
                all_goals go_wp2_with fail
                all_goals
                  go_roundg 1
                  case rel => exact ⟨1, (min (m.1 + (mn l (nz l i).toNat).1) 40000, max m.2 (mn l (nz l i).toNat).2), by omega, rfl, by go_num, (oK.other (by simp; omega) _ |>.other (by simp; omega) _).drew, by rw [← hA, HM.out]; rfl,
                    FoEnv.cast (((E4.set1 h1 h2 i _).set2 h1 h2 i _).kept (kept_drew (kept_refl _))) (by simp only [List.set_set]; exact congrArg (List.set _ i) (by first | omega | (dsimp only; omega))) (by simp only [List.set_set]; exact congrArg (List.set _ i) (by first | omega | (dsimp only; omega)))⟩
                  case measure => omega
            · rw [if_neg (by omega), if_pos rfl] at hm
              have hb : m.1 ≤ 40001 := mb_le (l := l) (z := nz l i) (o := 0) (r := 0) (by first | exact .inl hm | exact .inr hm)
              by_cases hz0 : no l i < 0
              · have hz1 : ¬ 0 ≤ no l i := by omega
                have hA : mnA (no l i) (mn l (no l i).toNat) m = (m.1 + 1, m.2) := if_pos hz0
                have m3 : IntKind.i64.wrap (((m.1 : Nat) : Int) + 1) = ((m.1 : Nat) : Int) + 1 := IntWalk.i64_in _ (by omega)
                have HM := Lib.hid hm
                clear hm
                go_wp2_with fail
                go_roundg 0
                case rel => exact ⟨2, (m.1 + 1, m.2), by omega, rfl, by go_num, oK.other (by simp; omega) _, by rw [← hA, HM.out]; rfl, by
                  have E5 := E4.set1 h1 h2 i (((m.1 : Nat) : Int) + 1)
                  simp only [List.set_set] at E5
                  exact E5⟩
                case measure => omega
              · have hz1 : 0 ≤ no l i := by omega
                have g5 : no l i < (l.length : Int) := by omega
                have hA : mnA (no l i) (mn l (no l i).toNat) m = (min (m.1 + (mn l (no l i).toNat).1) 40000, max m.2 (mn l (no l i).toNat).2) := if_neg hz0
                have M1 : (mn l (no l i).toNat).1 ≤ 40001 := (mn_le l l.length _).1
                have m3 : IntKind.i64.wrap (((m.1 : Nat) : Int) + (((mn l (no l i).toNat).1 : Nat) : Int)) = ((m.1 : Nat) : Int) + (((mn l (no l i).toNat).1 : Nat) : Int) := IntWalk.i64_in _ (by omega)
                have v1 := E4.m1.int (j := (no l i).toNat) (by simp; omega)
                have v2 := E4.m2.int (j := (no l i).toNat) (by simp; omega)
                rw [ia_set, if_neg (by omega), tl_at (by omega), if_pos (by omega)] at v1 v2
                have HM := Lib.hid hm
                clear hm
                go_wp2_with fail
                go_region
                all_goals go_wp2_with fail
                all_goals
                  go_roundg 0
                  case rel => exact ⟨2, (min (m.1 + (mn l (no l i).toNat).1) 40000, max m.2 (mn l (no l i).toNat).2), by omega, rfl, by go_num, (oK.other (by simp; omega) _ |>.other (by simp; omega) _).drew, by rw [← hA, HM.out]; rfl,
                    FoEnv.cast (((E4.set1 h1 h2 i _).set2 h1 h2 i _).kept (kept_drew (kept_refl _))) (by simp only [List.set_set]; exact congrArg (List.set _ i) (by first | omega | (dsimp only; omega))) (by simp only [List.set_set]; exact congrArg (List.set _ i) (by first | omega | (dsimp only; omega)))⟩
                  case measure => omega
            · rw [if_neg (by omega), if_neg (by omega)] at hm
              have hmn : mn l i = (m.1, m.2 + 3) := by rw [heq]; unfold mnK; rw [if_neg hzo, ← hm]
              have hm2 : m.2 ≤ 60001 := by
                have := (mn_le l l.length i).2
                have e : (mn l i).2 = m.2 + 3 := by rw [hmn]
                have : (mn l i).2 ≤ 3 * l.length + 1 := this
                omega
              have m3 : IntKind.i64.wrap (((m.2 : Nat) : Int) + 3) = ((m.2 : Nat) : Int) + 3 := IntWalk.i64_in _ (by omega)
              clear hm
              go_wp2_with fail
              go_roundg i
              case rel => exact ⟨i, by omega, rfl, by go_num, by
                have E5 := E4.set2 h1 h2 i (((m.2 : Nat) : Int) + 3)
                rw [mnL1, mnL2, ← tl_set (f := fun k => (((mn l k).1 : Nat) : Int)) hk, ← tl_set (f := fun k => (((mn l k).2 : Nat) : Int)) hk, hmn]
                simp only [List.set_set] at E5
                exact E5⟩
              case measure => omega
end Go.Proofs.Ytinpmdekdfgiiaa
