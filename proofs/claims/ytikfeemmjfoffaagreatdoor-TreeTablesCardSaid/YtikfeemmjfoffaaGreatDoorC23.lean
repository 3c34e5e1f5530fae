/- Polynomials: the reference's Multilinear. -/
import Derived.Test.YtikfeemmjfoffaaGreatDoorC19
set_option linter.unusedVariables false
set_option linter.unusedSimpArgs false
namespace Go.Proofs.YtikfeemmjfoffaaGreatDoor
open Go.RowKit

set_option maxRecDepth 100000 in
set_option maxHeartbeats 1000000 in
theorem rmulti22_any (P M : Int) (n : Nat) (t : List Bool) (A : Option Addr) (c : Nat) (w : World) (ok : okF P M = true) (hA : Rd w A (bools t)) (hn : n ≤ 12) (hl : t.length = 2 ^ n) :
    Calls Tryz.prog 15 #[kV P M, .int .i64 (n : Int), .slice A t.length c] w (TotPost P M ((mlTerms n (mlAll P M (t.map bitI) n) t.length).map fun t => [t]) w) := by
  have CN := Lib.hid fun a w' ha => rneg54_any P M a w' ok ha
  have CA := Lib.hid fun a b w' ha hb => radd53_any P M a b w' ok ha hb
  have CT := Lib.hid fun L A B cap w' h1 h2 h3 h4 => total_ones P M n ok (by omega) L A B cap w' h1 h2 h3 h4
  have hl2 : t.length ≤ 4096 := by rw [hl]; exact (Nat.pow_le_pow_right (by omega) hn : 2 ^ n ≤ 2 ^ 12)
  have OK := Lib.hid ok
  have hq := ord_ok ok
  unfold kV at *
  have K0 := kept_alloc (kept_refl w) (.cells #[.int .i64 P, .int .i64 M, .int .i64 (ordF P M), .int .i64 (kitM M)] 45)
  have o2 := Own.new w 45 [.int .i64 P, .int .i64 M, .int .i64 (ordF P M), .int .i64 (kitM M)]
  obtain ⟨q, hqq⟩ : ∃ q, q = ordF P M := ⟨_, rfl⟩
  obtain ⟨km, hkm⟩ : ∃ km, km = kitM M := ⟨_, rfl⟩
  rw [← hqq] at hq
  rw [← hqq, ← hkm] at CT CN CA K0 o2 ⊢
  have HQQ := Lib.hid hqq
  have HA := Lib.hid hA
  have HQ := Lib.hid hq
  obtain ⟨l, hll⟩ : ∃ l, l = t.length := ⟨_, rfl⟩
  have HLL := Lib.hid hll
  rw [← hll] at hl2 ⊢
  have hmk := make_ints l (by omega)
  clear hA ok hl hll hqq hkm hq
  go_enter Tryz.func15, Tryz.ntmps15
  obtain ⟨w0, hw0⟩ : ∃ w0, w0 = w.alloc (.cells #[.int .i64 P, .int .i64 M, .int .i64 q, .int .i64 km] 45) := ⟨_, rfl⟩
  go_wp2_with fail
  rw [← hw0] at K0 o2 ⊢
  have hz0 : w0.heap.size = w.heap.size + 1 := by rw [hw0]; simp
  have oc := Own.new w0 3 (ints (List.replicate l 0))
  rw [hz0] at oc
  clear hw0 hmk
  go_loopg [8] l (fun G s8 wr => ∃ (i : Nat), i ≤ l ∧ G = l - i ∧ s8 = .int .i64 i ∧ Own wr (w.heap.size + 1) 3 (ints (tabI (fun j => bitI (ba t j)) l i)) ∧ Kept w0 wr)
  case atStart => exact ⟨0, by omega, rfl, rfl, by rw [tabI_zero]; exact oc, kept_alloc (kept_refl _) _⟩
  case round =>
    clear oc
    obtain ⟨i, hi, rfl, rfl, oc, K1⟩ := hrel
    by_cases hit : i < l
    · obtain ⟨bv, hbv⟩ : ∃ bv, bv = ba t i := ⟨_, rfl⟩
      obtain ⟨ab, ao, rfl, hcb⟩ := (HA.out.kept (kept_trans K0 K1)).bool (k := i) (by rw [← HLL.out]; exact hit)
      replace hcb := hcb i (by rw [← HLL.out]; exact hit)
      rw [← hbv] at hcb
      have HB := Lib.hid hbv
      have OC := Lib.hid oc
      have f0 := oc.frozen i
      have c0 := oc.int (j := i) (by rw [tabI_len]; exact hit)
      clear hbv oc
      cases bv with
      | true =>
        go_wp2_with fail
        go_roundg (l - (i + 1))
        case rel => exact ⟨i + 1, by omega, rfl, by go_num, by
          have h5 := OC.out.setInt i 1
          have h6 : (tabI (fun j => bitI (ba t j)) l i).set i 1 = tabI (fun j => bitI (ba t j)) l (i + 1) := by
            rw [← tabI_set (fun j => bitI (ba t j)) hit]
            show _ = List.set _ i (bitI (ba t i))
            rw [← HB.out]
            rfl
          rw [h6] at h5
          exact h5, kept_set K1 (by omega) _⟩
        case measure => omega
      | false =>
        go_wp2_with fail
        go_roundg (l - (i + 1))
        case rel => exact ⟨i + 1, by omega, rfl, by go_num, by
          rw [← tabI_same _ hit (by show bitI (ba t i) = 0; rw [← HB.out]; rfl)]
          exact OC.out, K1⟩
        case measure => omega
    · obtain rfl : l = i := by omega
      rw [tabI_all, HLL.out, tab_bits] at oc
      obtain ⟨cT, hcT⟩ : ∃ cT, cT = t.map bitI := ⟨_, rfl⟩
      rw [← hcT] at oc
      have HCT := Lib.hid hcT
      have LT := Lib.hid (show cT.length = l by rw [hcT, List.length_map, ← HLL.out])
      have INT := Lib.hid (show AllIn P M cT from fun x hx => by
        rw [hcT] at hx
        obtain ⟨b, _, rfl⟩ := List.mem_map.1 hx
        have := ord_ok OK.out
        cases b
        · exact ⟨by simp [bitI], by simp [bitI]; omega⟩
        · exact ⟨by simp [bitI], by simp [bitI]; omega⟩)
      clear hcT
      have o2l := (o2.kept K1).lt
      go_wp2_with fail
      go_loopg [9, 10] n (fun G s9 s10 wr => ∃ (k : Nat) (v10 : Value), k ≤ n ∧ G = n - k ∧ s9 = .int .i64 k ∧ s10 = v10 ∧ Own wr (w.heap.size + 1) 3 (ints (mlAll P M cT k)) ∧ AllIn P M (mlAll P M cT k) ∧ Kept w0 wr)
      case atStart => exact ⟨0, _, by omega, rfl, rfl, rfl, oc, INT.out, K1⟩
      case round =>
        clear oc K1
        obtain ⟨k, v10, hk, rfl, rfl, rfl, oc, hin, K1⟩ := hrel
        by_cases hkt : k < n
        · obtain ⟨cK, hcK⟩ : ∃ cK, cK = mlAll P M cT k := ⟨_, rfl⟩
          rw [← hcK] at oc hin
          have HCK := Lib.hid hcK
          have LK := Lib.hid (show cK.length = l by rw [hcK, mlAll_len]; exact LT.out)
          have HIN := Lib.hid hin
          clear hcK hin
          go_wp2_with fail
          go_loopg [10] l (fun G s10 wr => ∃ (i : Nat), i ≤ l ∧ G = l - i ∧ s10 = .int .i64 i ∧ Own wr (w.heap.size + 1) 3 (ints (mlTo P M k cK i)) ∧ AllIn P M (mlTo P M k cK i) ∧ Kept w0 wr)
          case atStart => exact ⟨0, by omega, rfl, rfl, oc, HIN.out, K1⟩
          case round =>
            clear oc K1
            obtain ⟨i, hi, rfl, rfl, oc, hin, K1⟩ := hrel
            by_cases hit : i < l
            · obtain ⟨c, hc⟩ : ∃ c, c = mlTo P M k cK i := ⟨_, rfl⟩
              rw [← hc] at oc hin
              have lc : c.length = l := by rw [hc, mlTo_len]; exact LK.out
              have eb := b_and1 (b := i) (by omega) k
              obtain ⟨bv, hbv⟩ : ∃ bv, bv = i.testBit k := ⟨_, rfl⟩
              rw [← hbv] at eb
              have HC := Lib.hid hc
              have HBV := Lib.hid hbv
              have OC := Lib.hid oc
              have IN := Lib.hid hin
              have LC := Lib.hid lc
              clear hc hbv hin lc
              cases bv with
              | true =>
                have hzi : 2 ^ k ≤ i := Nat.ge_two_pow_of_testBit HBV.out.symm
                obtain ⟨e1, s1, s2⟩ := pow_wraps (k := k) (by omega)
                obtain ⟨z, hz⟩ : ∃ z, z = 2 ^ k := ⟨_, rfl⟩
                rw [← hz] at e1 s1 s2 hzi
                obtain ⟨j, hj⟩ : ∃ j, j = i - z := ⟨_, rfl⟩
                have hjl : j < l := by omega
                have ej : ((i : Nat) : Int) - ((z : Nat) : Int) = ((j : Nat) : Int) := by omega
                have ew : IntKind.i64.wrap (((i : Nat) : Int) - ((z : Nat) : Int)) = ((j : Nat) : Int) := by rw [ej]; exact IntWalk.i64_in _ (by omega)
                obtain ⟨x, hx⟩ : ∃ x, x = ia c i := ⟨_, rfl⟩
                obtain ⟨y, hy⟩ : ∃ y, y = ia c j := ⟨_, rfl⟩
                have c0 := oc.int (j := i) (by rw [LC.out]; exact hit)
                have c1 := oc.int (j := j) (by rw [LC.out]; exact hjl)
                rw [← hx] at c0
                rw [← hy] at c1
                have q0 := (o2.kept K1).cell (j := 0) rfl
                have q1 := (o2.kept K1).cell (j := 1) rfl
                have q2 := (o2.kept K1).cell (j := 2) rfl
                have q3 := (o2.kept K1).cell (j := 3) rfl
                have hinx : inF P M x := by rw [hx]; exact IN.out.ia (by rw [LC.out]; exact hit)
                have hiny : inF P M y := by rw [hy]; exact IN.out.ia (by rw [LC.out]; exact hjl)
                have CX := Lib.hid fun w' => CN.out y w' hiny
                have CY := Lib.hid fun w' => CA.out x (negF P M y) w' hinx (negF_in OK.out hiny)
                obtain ⟨y2, hy2⟩ : ∃ y2, y2 = negF P M y := ⟨_, rfl⟩
                rw [← hy2] at CX CY
                obtain ⟨s, hs⟩ : ∃ s, s = addF P M x y2 := ⟨_, rfl⟩
                rw [← hs] at CY
                have HS := Lib.hid (show c.set i s = mlStep P M k c i by unfold mlStep; rw [if_pos HBV.out.symm, ← hz, ← hj, ← hx, ← hy, ← hy2, hs])
                clear hs hx hy hz hj hinx hiny oc hy2 ej
                go_upto_region 14 with fail
                have hb1 : IntKind.i64.wrap ((i : Nat) : Int) = i := IntWalk.i64_in _ (by omega)
                have hb2 : IntKind.i64.wrap ((j : Nat) : Int) = j := IntWalk.i64_in _ (by omega)
                refine region_x (fun w' => Kept wr w') [18] (by kernel_rfl) (kept_drew (kept_refl _)) (fun hHeld => ?_)
                refine x_take (i := 0) (oi := { dst := some 47, op := Op.move (Operand.tmp 7), type := 24, pos := "ref.go:239", after := #[], guard := none }) (v := ?_) rfl (by kernel_rfl) (by kernel_rfl) (by kernel_rfl) (by kernel_rfl) (by kernel_rfl) (fun _ _ _ h => h) (Or.inl ⟨rfl, ?_⟩) (by assumption) ?_
                rotate_left
                · (intro w' hSw; replace q0 := kept_cell hSw q0; replace q1 := kept_cell hSw q1; replace q2 := kept_cell hSw q2; replace q3 := kept_cell hSw q3; replace c0 := kept_cell hSw c0; replace c1 := kept_cell hSw c1; go_simp; try with_reducible rfl)
                try simp only [Act.put, List.setIfInBounds_toArray, List.set_cons_zero, List.set_cons_succ]
                refine x_take (i := 1) (oi := { dst := some 48, op := Op.move (Operand.tmp 10), type := 3, pos := "ref.go:239", after := #[], guard := none }) (v := ?_) rfl (by kernel_rfl) (by kernel_rfl) (by kernel_rfl) (by kernel_rfl) (by kernel_rfl) (fun _ _ _ h => h) (Or.inl ⟨rfl, ?_⟩) (by assumption) ?_
                rotate_left
                · (intro w' hSw; replace q0 := kept_cell hSw q0; replace q1 := kept_cell hSw q1; replace q2 := kept_cell hSw q2; replace q3 := kept_cell hSw q3; replace c0 := kept_cell hSw c0; replace c1 := kept_cell hSw c1; go_simp; try with_reducible rfl)
                try simp only [Act.put, List.setIfInBounds_toArray, List.set_cons_zero, List.set_cons_succ]
                refine x_take (i := 2) (oi := { dst := some 49, op := Op.load 45 (Operand.tmp 3), type := 45, pos := "ref.go:239", after := #[], guard := none }) (v := ?_) rfl (by kernel_rfl) (by kernel_rfl) (by kernel_rfl) (by kernel_rfl) (by kernel_rfl) (fun _ _ _ h => h) (Or.inl ⟨rfl, ?_⟩) (by assumption) ?_
                rotate_left
                · (intro w' hSw; replace q0 := kept_cell hSw q0; replace q1 := kept_cell hSw q1; replace q2 := kept_cell hSw q2; replace q3 := kept_cell hSw q3; replace c0 := kept_cell hSw c0; replace c1 := kept_cell hSw c1; go_simp; try with_reducible rfl)
                try simp only [Act.put, List.setIfInBounds_toArray, List.set_cons_zero, List.set_cons_succ]
                refine x_take (i := 3) (oi := { dst := some 50, op := Op.move (Operand.tmp 7), type := 24, pos := "ref.go:239", after := #[], guard := none }) (v := ?_) rfl (by kernel_rfl) (by kernel_rfl) (by kernel_rfl) (by kernel_rfl) (by kernel_rfl) (fun _ _ _ h => h) (Or.inl ⟨rfl, ?_⟩) (by assumption) ?_
                rotate_left
                · (intro w' hSw; replace q0 := kept_cell hSw q0; replace q1 := kept_cell hSw q1; replace q2 := kept_cell hSw q2; replace q3 := kept_cell hSw q3; replace c0 := kept_cell hSw c0; replace c1 := kept_cell hSw c1; go_simp; try with_reducible rfl)
                try simp only [Act.put, List.setIfInBounds_toArray, List.set_cons_zero, List.set_cons_succ]
                refine x_take (i := 4) (oi := { dst := some 51, op := Op.move (Operand.tmp 10), type := 3, pos := "ref.go:239", after := #[], guard := none }) (v := ?_) rfl (by kernel_rfl) (by kernel_rfl) (by kernel_rfl) (by kernel_rfl) (by kernel_rfl) (fun _ _ _ h => h) (Or.inl ⟨rfl, ?_⟩) (by assumption) ?_
                rotate_left
                · (intro w' hSw; replace q0 := kept_cell hSw q0; replace q1 := kept_cell hSw q1; replace q2 := kept_cell hSw q2; replace q3 := kept_cell hSw q3; replace c0 := kept_cell hSw c0; replace c1 := kept_cell hSw c1; go_simp; try with_reducible rfl)
                try simp only [Act.put, List.setIfInBounds_toArray, List.set_cons_zero, List.set_cons_succ]
                refine x_take (i := 5) (oi := { dst := some 52, op := Op.indexAddr 24 (Operand.tmp 50) (Operand.tmp 51), type := 0, pos := "ref.go:239", after := #[{ on := 3, ground := Ground.data }, { on := 4, ground := Ground.data }], guard := none }) (v := ?_) rfl (by kernel_rfl) (by kernel_rfl) (by kernel_rfl) (by kernel_rfl) (by kernel_rfl) (fun _ _ _ h => h) (Or.inl ⟨rfl, ?_⟩) (by assumption) ?_
                rotate_left
                · (intro w' hSw; replace q0 := kept_cell hSw q0; replace q1 := kept_cell hSw q1; replace q2 := kept_cell hSw q2; replace q3 := kept_cell hSw q3; replace c0 := kept_cell hSw c0; replace c1 := kept_cell hSw c1; go_simp; try with_reducible rfl)
                try simp only [Act.put, List.setIfInBounds_toArray, List.set_cons_zero, List.set_cons_succ]
                refine x_take (i := 6) (oi := { dst := some 53, op := Op.load 3 (Operand.tmp 52), type := 3, pos := "ref.go:239", after := #[{ on := 5, ground := Ground.data }], guard := none }) (v := ?_) rfl (by kernel_rfl) (by kernel_rfl) (by kernel_rfl) (by kernel_rfl) (by kernel_rfl) (fun _ _ _ h => h) (Or.inl ⟨rfl, ?_⟩) (by assumption) ?_
                rotate_left
                · (intro w' hSw; replace q0 := kept_cell hSw q0; replace q1 := kept_cell hSw q1; replace q2 := kept_cell hSw q2; replace q3 := kept_cell hSw q3; replace c0 := kept_cell hSw c0; replace c1 := kept_cell hSw c1; go_simp; try with_reducible rfl)
                try simp only [Act.put, List.setIfInBounds_toArray, List.set_cons_zero, List.set_cons_succ]
                refine x_take (i := 7) (oi := { dst := some 54, op := Op.load 45 (Operand.tmp 3), type := 45, pos := "ref.go:239", after := #[], guard := none }) (v := ?_) rfl (by kernel_rfl) (by kernel_rfl) (by kernel_rfl) (by kernel_rfl) (by kernel_rfl) (fun _ _ _ h => h) (Or.inl ⟨rfl, ?_⟩) (by assumption) ?_
                rotate_left
                · (intro w' hSw; replace q0 := kept_cell hSw q0; replace q1 := kept_cell hSw q1; replace q2 := kept_cell hSw q2; replace q3 := kept_cell hSw q3; replace c0 := kept_cell hSw c0; replace c1 := kept_cell hSw c1; go_simp; try with_reducible rfl)
                try simp only [Act.put, List.setIfInBounds_toArray, List.set_cons_zero, List.set_cons_succ]
                refine x_take (i := 8) (oi := { dst := some 55, op := Op.move (Operand.tmp 7), type := 24, pos := "ref.go:239", after := #[], guard := none }) (v := ?_) rfl (by kernel_rfl) (by kernel_rfl) (by kernel_rfl) (by kernel_rfl) (by kernel_rfl) (fun _ _ _ h => h) (Or.inl ⟨rfl, ?_⟩) (by assumption) ?_
                rotate_left
                · (intro w' hSw; replace q0 := kept_cell hSw q0; replace q1 := kept_cell hSw q1; replace q2 := kept_cell hSw q2; replace q3 := kept_cell hSw q3; replace c0 := kept_cell hSw c0; replace c1 := kept_cell hSw c1; go_simp; try with_reducible rfl)
                try simp only [Act.put, List.setIfInBounds_toArray, List.set_cons_zero, List.set_cons_succ]
                refine x_take (i := 9) (oi := { dst := some 56, op := Op.move (Operand.tmp 10), type := 3, pos := "ref.go:239", after := #[], guard := none }) (v := ?_) rfl (by kernel_rfl) (by kernel_rfl) (by kernel_rfl) (by kernel_rfl) (by kernel_rfl) (fun _ _ _ h => h) (Or.inl ⟨rfl, ?_⟩) (by assumption) ?_
                rotate_left
                · (intro w' hSw; replace q0 := kept_cell hSw q0; replace q1 := kept_cell hSw q1; replace q2 := kept_cell hSw q2; replace q3 := kept_cell hSw q3; replace c0 := kept_cell hSw c0; replace c1 := kept_cell hSw c1; go_simp; try with_reducible rfl)
                try simp only [Act.put, List.setIfInBounds_toArray, List.set_cons_zero, List.set_cons_succ]
                refine x_take (i := 10) (oi := { dst := some 57, op := Op.move (Operand.tmp 9), type := 3, pos := "ref.go:239", after := #[], guard := none }) (v := ?_) rfl (by kernel_rfl) (by kernel_rfl) (by kernel_rfl) (by kernel_rfl) (by kernel_rfl) (fun _ _ _ h => h) (Or.inl ⟨rfl, ?_⟩) (by assumption) ?_
                rotate_left
                · (intro w' hSw; replace q0 := kept_cell hSw q0; replace q1 := kept_cell hSw q1; replace q2 := kept_cell hSw q2; replace q3 := kept_cell hSw q3; replace c0 := kept_cell hSw c0; replace c1 := kept_cell hSw c1; go_simp; try with_reducible rfl)
                try simp only [Act.put, List.setIfInBounds_toArray, List.set_cons_zero, List.set_cons_succ]
                refine x_take (i := 11) (oi := { dst := some 58, op := Op.binOp BinOp.shl 3 (Operand.const (Value.int IntKind.i64 1)) (Operand.tmp 57) 3, type := 3, pos := "ref.go:239", after := #[{ on := 10, ground := Ground.data }], guard := none }) (v := ?_) rfl (by kernel_rfl) (by kernel_rfl) (by kernel_rfl) (by kernel_rfl) (by kernel_rfl) (fun _ _ _ h => h) (Or.inl ⟨rfl, ?_⟩) (by assumption) ?_
                rotate_left
                · (intro w' hSw; replace q0 := kept_cell hSw q0; replace q1 := kept_cell hSw q1; replace q2 := kept_cell hSw q2; replace q3 := kept_cell hSw q3; replace c0 := kept_cell hSw c0; replace c1 := kept_cell hSw c1; go_simp; try with_reducible rfl)
                try simp only [Act.put, List.setIfInBounds_toArray, List.set_cons_zero, List.set_cons_succ]
                refine x_take (i := 12) (oi := { dst := some 59, op := Op.binOp BinOp.sub 3 (Operand.tmp 56) (Operand.tmp 58) 3, type := 3, pos := "ref.go:239", after := #[{ on := 9, ground := Ground.data }, { on := 11, ground := Ground.data }], guard := none }) (v := ?_) rfl (by kernel_rfl) (by kernel_rfl) (by kernel_rfl) (by kernel_rfl) (by kernel_rfl) (fun _ _ _ h => h) (Or.inl ⟨rfl, ?_⟩) (by assumption) ?_
                rotate_left
                · (intro w' hSw; replace q0 := kept_cell hSw q0; replace q1 := kept_cell hSw q1; replace q2 := kept_cell hSw q2; replace q3 := kept_cell hSw q3; replace c0 := kept_cell hSw c0; replace c1 := kept_cell hSw c1; go_simp; try with_reducible rfl)
                try simp only [Act.put, List.setIfInBounds_toArray, List.set_cons_zero, List.set_cons_succ]
                refine x_take (i := 13) (oi := { dst := some 60, op := Op.indexAddr 24 (Operand.tmp 55) (Operand.tmp 59), type := 0, pos := "ref.go:239", after := #[{ on := 8, ground := Ground.data }, { on := 12, ground := Ground.data }], guard := none }) (v := ?_) rfl (by kernel_rfl) (by kernel_rfl) (by kernel_rfl) (by kernel_rfl) (by kernel_rfl) (fun _ _ _ h => h) (Or.inl ⟨rfl, ?_⟩) (by assumption) ?_
                rotate_left
                · (intro w' hSw; replace q0 := kept_cell hSw q0; replace q1 := kept_cell hSw q1; replace q2 := kept_cell hSw q2; replace q3 := kept_cell hSw q3; replace c0 := kept_cell hSw c0; replace c1 := kept_cell hSw c1; go_simp; try with_reducible rfl)
                try simp only [Act.put, List.setIfInBounds_toArray, List.set_cons_zero, List.set_cons_succ]
                refine x_take (i := 14) (oi := { dst := some 61, op := Op.load 3 (Operand.tmp 60), type := 3, pos := "ref.go:239", after := #[{ on := 13, ground := Ground.data }], guard := none }) (v := ?_) rfl (by kernel_rfl) (by kernel_rfl) (by kernel_rfl) (by kernel_rfl) (by kernel_rfl) (fun _ _ _ h => h) (Or.inl ⟨rfl, ?_⟩) (by assumption) ?_
                rotate_left
                · (intro w' hSw; replace q0 := kept_cell hSw q0; replace q1 := kept_cell hSw q1; replace q2 := kept_cell hSw q2; replace q3 := kept_cell hSw q3; replace c0 := kept_cell hSw c0; replace c1 := kept_cell hSw c1; go_simp; try with_reducible rfl)
                try simp only [Act.put, List.setIfInBounds_toArray, List.set_cons_zero, List.set_cons_succ]
                refine x_one (i := 15) (o := { dst := some 62, op := Op.call { callee := Callee.value (Operand.func 41), args := #[Operand.tmp 54, Operand.tmp 61], argTypes := #[45, 3] }, type := 3, pos := "ref.go:239", after := #[{ on := 7, ground := Ground.data }, { on := 14, ground := Ground.data }], guard := none }) (by kernel_rfl) rfl (fun K hK => ?_)
                (go_simp; go_at_call 41; (with_reducible refine (CX.out _).mono ?_); rintro e w4 ⟨rfl, k4⟩; have KK4 : Kept wr w4 := kept_trans hHeld k4; try dsimp only)
                refine hK.out _ _ ?_ (fun hHeld => ?_)
                · (try dsimp only); repeat (first | assumption | exact kept_refl _ | refine kept_drew ?_ | refine kept_alloc ?_ _ | refine kept_set ?_ (by omega) _)
                clear hK K
                try simp only [Act.put, List.setIfInBounds_toArray, List.set_cons_zero, List.set_cons_succ]
                refine x_one (i := 16) (o := { dst := some 63, op := Op.call { callee := Callee.value (Operand.func 40), args := #[Operand.tmp 49, Operand.tmp 53, Operand.tmp 62], argTypes := #[45, 3, 3] }, type := 3, pos := "ref.go:239", after := #[{ on := 2, ground := Ground.data }, { on := 6, ground := Ground.data }, { on := 15, ground := Ground.data }, { on := 15, ground := Ground.chain }], guard := none }) (by kernel_rfl) rfl (fun K hK => ?_)
                (go_simp; go_at_call 40; (with_reducible refine (CY.out _).mono ?_); rintro e w5 ⟨rfl, k5⟩; have KK5 : Kept wr w5 := kept_trans hHeld k5; have oc5 := OC.out.kept KK5; try dsimp only)
                refine hK.out _ _ ?_ (fun hHeld => ?_)
                · (try dsimp only); repeat (first | assumption | exact kept_refl _ | refine kept_drew ?_ | refine kept_alloc ?_ _ | refine kept_set ?_ (by omega) _)
                clear hK K
                try simp only [Act.put, List.setIfInBounds_toArray, List.set_cons_zero, List.set_cons_succ]
                refine x_take (i := 17) (oi := { dst := some 64, op := Op.indexAddr 24 (Operand.tmp 47) (Operand.tmp 48), type := 0, pos := "ref.go:239", after := #[{ on := 0, ground := Ground.data }, { on := 1, ground := Ground.data }, { on := 0, ground := Ground.phase }, { on := 1, ground := Ground.phase }, { on := 2, ground := Ground.phase }, { on := 3, ground := Ground.phase }, { on := 4, ground := Ground.phase }, { on := 5, ground := Ground.phase }, { on := 6, ground := Ground.phase }, { on := 7, ground := Ground.phase }, { on := 8, ground := Ground.phase }, { on := 9, ground := Ground.phase }, { on := 10, ground := Ground.phase }, { on := 11, ground := Ground.phase }, { on := 12, ground := Ground.phase }, { on := 13, ground := Ground.phase }, { on := 14, ground := Ground.phase }, { on := 15, ground := Ground.phase }, { on := 16, ground := Ground.phase }], guard := none }) (v := ?_) rfl (by kernel_rfl) (by kernel_rfl) (by kernel_rfl) (by kernel_rfl) (by kernel_rfl) (fun _ _ _ h => h) (Or.inl ⟨rfl, ?_⟩) (by assumption) ?_
                rotate_left
                · (intro w' hSw; replace q0 := kept_cell hSw q0; replace q1 := kept_cell hSw q1; replace q2 := kept_cell hSw q2; replace q3 := kept_cell hSw q3; replace c0 := kept_cell hSw c0; replace c1 := kept_cell hSw c1; go_simp; try with_reducible rfl)
                try simp only [Act.put, List.setIfInBounds_toArray, List.set_cons_zero, List.set_cons_succ]
                refine x_last (i := 18) (o := { dst := none, op := Op.store 3 (Operand.tmp 64) (Operand.tmp 63), type := 0, pos := "ref.go:239", after := #[{ on := 17, ground := Ground.data }, { on := 16, ground := Ground.data }, { on := 16, ground := Ground.chain }, { on := 0, ground := Ground.phase }, { on := 1, ground := Ground.phase }, { on := 2, ground := Ground.phase }, { on := 3, ground := Ground.phase }, { on := 4, ground := Ground.phase }, { on := 5, ground := Ground.phase }, { on := 6, ground := Ground.phase }, { on := 7, ground := Ground.phase }, { on := 8, ground := Ground.phase }, { on := 9, ground := Ground.phase }, { on := 10, ground := Ground.phase }, { on := 11, ground := Ground.phase }, { on := 12, ground := Ground.phase }, { on := 13, ground := Ground.phase }, { on := 14, ground := Ground.phase }, { on := 15, ground := Ground.phase }, { on := 16, ground := Ground.phase }], guard := none }) (by kernel_rfl) rfl (by simp) (fun K hK => ?_)
                (have f4 := oc5.frozen i; have y0 := oc5.int (j := i) (by rw [LC.out]; exact hit); go_simp)
                refine hK.out _ _ ?_
                clear hK K
                try simp only [Act.put, List.setIfInBounds_toArray, List.set_cons_zero, List.set_cons_succ]
                refine x_done (by kernel_rfl) ?_ _
                clear q0 q1 q2 q3 c0 c1 s1 s2 eb ew
                go_wp2_with fail
                go_roundg (l - (i + 1))
                case rel => exact ⟨i + 1, by omega, rfl, by go_num, by (rw [mlTo_succ, ← HC.out, ← HS.out]; exact oc5.setInt i s), by (rw [mlTo_succ, ← HC.out]; exact mlStep_in OK.out IN.out (by rw [LC.out]; exact hit)), kept_set (kept_trans K1 KK5) (by omega) _⟩
                case measure => omega
              | false =>
                clear oc
                go_wp2_with fail
                go_roundg (l - (i + 1))
                case rel => exact ⟨i + 1, by omega, rfl, by go_num, by
                  rw [mlTo_succ, ← HC.out]; unfold mlStep; rw [if_neg (by rw [← HBV.out]; decide)]; exact OC.out, by
                  rw [mlTo_succ, ← HC.out]; unfold mlStep; rw [if_neg (by rw [← HBV.out]; decide)]; exact IN.out, K1⟩
                case measure => omega
            · obtain rfl : l = i := by omega
              have OC := Lib.hid oc
              have IN := Lib.hid hin
              clear oc hin
              go_wp2_with fail
              go_roundg (n - (k + 1))
              case rel => exact ⟨k + 1, _, by omega, rfl, by go_num, rfl, by
                rw [mlAll_succ, ← HCK.out, LK.out]; exact OC.out, by
                rw [mlAll_succ, ← HCK.out, LK.out]; exact IN.out, K1⟩
              case measure => omega
        · obtain rfl : n = k := by omega
          obtain ⟨cF, hcF⟩ : ∃ cF, cF = mlAll P M cT n := ⟨_, rfl⟩
          have LF := Lib.hid (show cF.length = l by rw [hcF, mlAll_len]; exact LT.out)
          rw [← hcF] at oc hin
          have HCF := Lib.hid hcF
          have HIN := Lib.hid hin
          have OC := Lib.hid oc
          have gl := oc.lt
          clear hcF hin oc
          go_wp2_with fail
          obtain ⟨wz, rfl⟩ : ∃ x, x = wr := ⟨_, rfl⟩
          go_loopg [11, 12, 13, 14] l (fun G s11 s12 s13 s14 wr => ∃ (i : Nat) (m : Nat) (A5 : Option Addr) (c5 : Nat) (L : List Pe) (v13 v14 : Value), i ≤ l ∧ m ≤ i ∧ G = l - i ∧ s11 = .slice A5 m c5 ∧ s12 = .int .i64 i ∧ s13 = v13 ∧ s14 = v14 ∧ wr.ownsRow wz.heap.size 35 1 (.slice A5 m c5) m (L.map valPe) ∧ Hid (L.length = m ∧ (L.map fun y => y.x.t) = mlTerms n cF i) ∧ Hid (∀ y ∈ L, okPe y wr) ∧ Kept wz wr)
          case atStart => exact ⟨0, 0, none, 0, [], _, _, by omega, by omega, rfl, rfl, rfl, rfl, rfl, World.ownsRow_nil _ _ _ _, Lib.hid (by simp [mlTerms]), Lib.hid (by simp), kept_refl _⟩
          case round =>
            obtain ⟨i, m, A5, c5, L, v13, v14, hi, hm, rfl, rfl, rfl, rfl, rfl, hrow, HL, HK, KZ⟩ := hrel
            by_cases hit : i < l
            · have hmk := make_ints n (by omega)
              have oe := Own.new wr 3 (ints (List.replicate n 0))
              go_wp2_with fail
              clear hmk
              obtain ⟨wy, rfl⟩ : ∃ x, x = wr := ⟨_, rfl⟩
              go_loopg [14] n (fun G s14 wr => ∃ (k : Nat), k ≤ n ∧ G = n - k ∧ s14 = .int .i64 k ∧ Own wr wy.heap.size 3 (ints (tabI (fun k => bitI (i.testBit k)) n k)) ∧ Kept wy wr)
              case atStart => exact ⟨0, by omega, rfl, rfl, by rw [tabI_zero]; exact oe, kept_alloc (kept_refl _) _⟩
              case round =>
                clear oe
                obtain ⟨k, hk, rfl, rfl, oe, KY⟩ := hrel
                by_cases hkt : k < n
                · have ev := b_and2 (b := i) (by omega) k
                  obtain ⟨v, hv⟩ : ∃ v, v = bitI (i.testBit k) := ⟨_, rfl⟩
                  rw [← hv] at ev
                  have HV := Lib.hid hv
                  have OE := Lib.hid oe
                  have f0 := oe.frozen k
                  have e0 := oe.int (j := k) (by rw [tabI_len]; exact hkt)
                  clear hv oe
                  go_wp2_with fail
                  go_roundg (n - (k + 1))
                  case rel => exact ⟨k + 1, by omega, rfl, by go_num, by
                    have h5 := OE.out.setInt k v
                    have h6 : (tabI (fun k => bitI (i.testBit k)) n k).set k v = tabI (fun k => bitI (i.testBit k)) n (k + 1) := by
                      rw [← tabI_set (fun k => bitI (i.testBit k)) hkt, HV.out]
                    rw [h6] at h5
                    exact h5, kept_set KY (Nat.le_refl _) _⟩
                  case measure => omega
                · obtain rfl : n = k := by omega
                  rw [tabI_all] at oe
                  change Own wr wy.heap.size 3 (ints (bitsL n i)) at oe
                  have KZY := kept_trans KZ KY
                  have c0 := (OC.out.kept KZY).int (j := i) (by rw [LF.out]; exact hit)
                  have inx := HIN.out.ia (i := i) (by rw [LF.out]; exact hit)
                  obtain ⟨x, hx⟩ : ∃ x, x = ia cF i := ⟨_, rfl⟩
                  rw [← hx] at c0 inx
                  have HX := Lib.hid hx
                  have INX := Lib.hid inx
                  have hrowY := row_kept hrow KY
                  have HKY := Lib.hid (show ∀ y ∈ L, okPe y wr from fun y hy => (HK.out y hy).kept KY)
                  clear hx inx
                  by_cases hx0 : x = 0
                  · have HX0 := Lib.hid hx0
                    have d0 : (x != 0) = false := by simpa using hx0
                    clear hx0 oe
                    go_wp2_with fail
                    go_roundg (l - (i + 1))
                    case rel => exact ⟨i + 1, m, A5, c5, L, _, _, by omega, by omega, rfl, rfl, by go_num, rfl, rfl, hrowY, Lib.hid ⟨HL.out.1, by rw [mlTerms_succ, ← HX.out, if_pos HX0.out, List.append_nil]; exact HL.out.2⟩, HKY, KZY⟩
                    case measure => omega
                  · have HX0 := Lib.hid hx0
                    have d0 : (x != 0) = true := by simpa using hx0
                    obtain ⟨W5, hW5⟩ : ∃ W5, W5 = wr.alloc (.cells #[.int .i64 x, .slice (some ⟨wy.heap.size, 0, none⟩) n n] 78) := ⟨_, rfl⟩
                    have KW5 : Kept wr W5 := by rw [hW5]; exact kept_alloc (kept_refl _) _
                    have hrowW := row_kept hrowY KW5
                    have hle := oe.row wy.heap.size 1 n (Nat.le_refl _) (by simp [bitsL_len]) (by omega)
                    have ok5 : okPe ⟨wr.heap.size, ⟨⟨x, bitsL n i⟩, some ⟨wy.heap.size, 0, none⟩, n⟩⟩ W5 := ⟨by
                      have := Own.new wr 78 [.int .i64 x, .slice (some ⟨wy.heap.size, 0, none⟩) n n]
                      rw [hW5]
                      simpa [te2, bitsL_len] using this, by
                      have := row_base (row_kept hle KW5) (Nat.zero_le _)
                      simpa [bitsL_len] using this, by simp [bitsL_len]; omega⟩
                    have HW5 := Lib.hid hW5
                    have hB5 : wz.heap.size ≤ W5.heap.size := by have := (kept_trans KZY KW5).size; omega
                    have OK5 := Lib.hid ok5
                    have HSZ := Lib.hid (show W5.heap.size = wr.heap.size + 1 by rw [hW5]; simp)
                    clear hW5 ok5 hx0 oe hle
                    go_wp2_with (at_builtin; go_loud (rw [← HW5.out]; refine app_law wz.heap.size rfl (.tmp 90) (.tmp 98) 82 35 (.slice none 0 0) 1 24 rfl Tryz.underlying82 info25 rfl (by omega) (by omega) (.slice A5 m c5) m 1 (L.map valPe) [.slice (some ⟨wr.heap.size, 0, none⟩) 1 1] rfl (by rw [HSZ.out]; rfl) rfl (by intro u hu; simp at hu; subst hu; rfl) hrowW hB5 (by omega) ?_; intro v5 w5 h5 hg5 _; obtain ⟨A6, c6, rfl⟩ := row_val h5))
                    go_roundg (l - (i + 1))
                    case rel => exact ⟨i + 1, m + 1, A6, c6, L ++ [⟨wr.heap.size, ⟨⟨x, bitsL n i⟩, some ⟨wy.heap.size, 0, none⟩, n⟩⟩], _, _, by omega, by omega, rfl, rfl, by go_num, rfl, rfl, by (rw [List.map_append]; exact h5), Lib.hid ⟨by (rw [List.length_append, HL.out.1]; rfl), by
                        rw [List.map_append, HL.out.2, mlTerms_succ, ← HX.out, if_neg HX0.out]
                        rfl⟩, Lib.hid (fun y hy => by
                        rcases List.mem_append.1 hy with hy | hy
                        · exact ((HKY.out y hy).kept KW5).grow hrowW hg5
                        · obtain rfl := List.mem_singleton.1 hy
                          exact OK5.out.grow hrowW hg5), kept_grown (kept_trans KZY KW5) hrowW (Nat.le_refl _) hg5⟩
                    case measure => omega
            · obtain rfl : l = i := by omega
              have K2 := kept_trans K1 KZ
              have y0 := (o2.kept K2).cell (j := 0) rfl
              have y1 := (o2.kept K2).cell (j := 1) rfl
              have y2 := (o2.kept K2).cell (j := 2) rfl
              have y3 := (o2.kept K2).cell (j := 3) rfl
              have hcl := HL.out.1
              have C49 := Lib.hid (CT.out L A5 wz.heap.size c5 wr (by rw [hcl]; exact hrow) HK.out (by rw [hcl]; omega) (fun y hy => by
                have h5 : y.x.t ∈ mlTerms n cF l := by rw [← HL.out.2]; exact List.mem_map.2 ⟨y, hy, rfl⟩
                obtain ⟨j, hj, h0, e5⟩ := mlTerms_mem h5
                have h := HIN.out.ia (i := j) (by rw [LF.out]; exact hj)
                rw [e5, HQQ.out]
                exact ⟨bitsL_len n j, by have := h.1; dsimp only; omega, h.2⟩))
              rw [hcl] at C49
              clear hcl
              go_wp2_with (go_at_call 42; ((with_reducible refine C49.out.mono ?_); rintro e w5 ⟨A6, c6, out, rfl, ho, hrp, k6⟩; have HO := Lib.hid ho; clear ho))
              go_ret
              exact ⟨A6, c6, out, rfl, by (rw [HO.out, show (L.map fun y => [y.x.t]) = (L.map fun y => y.x.t).map fun t => [t] by rw [List.map_map]; rfl, HL.out.2, HCF.out, HCT.out]), hrp, kept_trans K0 (kept_trans K2 k6)⟩
end Go.Proofs.YtikfeemmjfoffaaGreatDoor
