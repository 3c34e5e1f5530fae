/- Trees: the tree below a node, the reference's, walked. -/
import Derived.Test.YtikfeemmjfoffaaGreatDoorT6
set_option linter.unusedVariables false
set_option linter.unusedSimpArgs false
namespace Go.Proofs.YtikfeemmjfoffaaGreatDoor
open Go.RowKit Go.Shelf

theorem pow_up {hh H : Nat} (h : hh < H) : 2 ^ hh - 1 + 2 ^ hh = 2 ^ (hh + 1) - 1 ∧ 2 ^ (hh + 1) ≤ 2 ^ H := by
  have h1 := Nat.two_pow_pos hh
  have h2 : 2 ^ (hh + 1) ≤ 2 ^ H := Nat.pow_le_pow_right (by decide) h
  rw [Nat.pow_succ] at h2 ⊢
  omega
set_option maxRecDepth 100000 in
set_option maxHeartbeats 1000000 in
theorem rbelow19_any (t : Tr) (g0 : Good t) (n : Nat) (hn : n < t.tb.length + t.lv.length) (A : Option Addr) (c : Nat) (T : Option Addr) (d : Nat) (w : World) (hA : Rd w A (ints t.lv)) (hT : RT w T t.tb) :
    Calls Tryz.prog 19 #[trV t A c T d, .int .i64 (n : Int)] w (BelowPost t n w) := by
  obtain ⟨h, hh⟩ : ∃ h : Nat, t.h = h := ⟨t.h.toNat, by have := g0.h0; omega⟩
  have hh6 : h ≤ 6 := by have := g0.h6; omega
  obtain ⟨lo, hi⟩ := log_in (m := n + 1) (by omega)
  have epw : pw t.h = 2 ^ h := by rw [hh]; rfl
  have tl : t.tb.length + 1 = 2 ^ h := by have := g0.tl; rw [epw] at this; have := Nat.two_pow_pos h; omega
  have ll : t.lv.length = 2 ^ h := by rw [g0.ll, epw]
  have hD : dpt n ≤ h := by
    have h1 : 2 ^ dpt n < 2 ^ (h + 1) := Nat.lt_of_le_of_lt lo (by rw [Nat.pow_succ]; omega)
    have := (Nat.pow_lt_pow_iff_right (by decide : 1 < 2)).1 h1
    omega
  obtain ⟨D, hDd⟩ : ∃ D, D = dpt n := ⟨_, rfl⟩
  obtain ⟨H, hH⟩ : ∃ H, H = h - D := ⟨_, rfl⟩
  have O : BelowOk t n D H h := ⟨g0, hh, by rw [hDd]; exact lo, by rw [hDd]; exact hi, by omega⟩
  obtain ⟨F, hF⟩ := cells_choose hT
  have HO := Lib.hid O
  have HF := Lib.hid hF
  have HA := Lib.hid hA
  have hp2 : 2 ^ h ≤ 64 := (Nat.pow_le_pow_right (by decide) hh6 : 2 ^ h ≤ 2 ^ 6)
  have htb : t.tb.length ≤ 63 := by omega
  have hn128 : n ≤ 128 := by omega
  obtain ⟨b, hb⟩ : ∃ b, b = t.b := ⟨_, rfl⟩
  unfold trV
  rw [hh, ← hb]
  obtain ⟨V, hV⟩ : ∃ V, V = [Value.int .i64 (h : Int), .int .i64 b, .slice A t.lv.length c, .slice T t.tb.length d] := ⟨_, rfl⟩
  have HV := Lib.hid hV
  obtain ⟨W0, hW0⟩ : ∃ W0, W0 = ((w.alloc (.cells #[.int .i64 (h : Int), .int .i64 b, .slice A t.lv.length c, .slice T t.tb.length d] 27)).alloc (.cells #[.int .i64 0, .int .i64 0, .slice none 0 0, .slice none 0 0] 27)).alloc (.cells #[.int .i64 (h : Int), .int .i64 b, .slice none 0 0, .slice none 0 0] 27) := ⟨_, rfl⟩
  have MM0 : MemB w w.heap.size V (h : Int) b (.slice none 0 0) (.slice none 0 0) (.slice none 0 0) (.slice none 0 0) [] [] [] [] W0 := by
    rw [hW0, hV]
    have o2 := Own.new w 27 [.int .i64 (h : Int), .int .i64 b, .slice A t.lv.length c, .slice T t.tb.length d]
    have o4 := Own.new (w.alloc (.cells #[.int .i64 (h : Int), .int .i64 b, .slice A t.lv.length c, .slice T t.tb.length d] 27)) 27 zero4
    have o5 := Own.new ((w.alloc (.cells #[.int .i64 (h : Int), .int .i64 b, .slice A t.lv.length c, .slice T t.tb.length d] 27)).alloc (.cells #[.int .i64 0, .int .i64 0, .slice none 0 0, .slice none 0 0] 27)) 27 [.int .i64 (h : Int), .int .i64 b, .slice none 0 0, .slice none 0 0]
    rw [show (w.alloc (.cells #[.int .i64 (h : Int), .int .i64 b, .slice A t.lv.length c, .slice T t.tb.length d] 27)).heap.size = w.heap.size + 1 by simp] at o4
    rw [show ((w.alloc (.cells #[.int .i64 (h : Int), .int .i64 b, .slice A t.lv.length c, .slice T t.tb.length d] 27)).alloc (.cells #[.int .i64 0, .int .i64 0, .slice none 0 0, .slice none 0 0] 27)).heap.size = w.heap.size + 2 by simp] at o5
    exact ⟨(o2.alloc _).alloc _, o4.alloc _, o5, World.ownsRow_nil _ _ _ _, World.ownsRow_nil _ _ _ _, World.ownsRow_nil _ _ _ _, World.ownsRow_nil _ _ _ _, .inl rfl, .inl rfl, .inl rfl, Nat.le_refl _, kept_alloc (kept_alloc (kept_alloc (kept_refl w) _) _) _⟩
  have HW0 := Lib.hid hW0
  have HH := Lib.hid hH
  have HDD := Lib.hid hDd
  have HDL := Lib.hid (show D ≤ h by rw [hDd]; exact hD)
  have HBB := Lib.hid hb
  clear hA hT g0 hh lo hi epw tl ll O hF hW0 hV hb hH hDd hD
  go_enter Tryz.func19, Tryz.ntmps19
  go_upto_region 2 with fail
  rw [← HW0.out]
  obtain ⟨g, hg⟩ : ∃ g, g = w.heap.size := ⟨_, rfl⟩
  rw [← hg] at MM0 ⊢
  clear hg HW0
  go_wp2_with fail
  go_loopg [6] n (fun G s6 wr => ∃ (m X : Nat), m ≤ n ∧ G = 1 * m ∧ s6 = .int .i64 m ∧ X ≤ h ∧ X + D = h + dpt m ∧ MemB w g V (X : Int) b (.slice none 0 0) (.slice none 0 0) (.slice none 0 0) (.slice none 0 0) [] [] [] [] wr)
  case atStart => exact ⟨n, h, Nat.le_refl _, by omega, rfl, Nat.le_refl _, by rw [HDD.out], MM0⟩
  case round =>
    clear MM0
    obtain ⟨m, X, hm, rfl, rfl, hXh, hX, MM⟩ := hrel
    by_cases hm0 : 0 < m
    · have hup := dpt_up hm0
      have hdl := HDL.out
      have b1 : decide ((0 : Int) < (m : Int)) = true := decide_eq_true (by omega)
      have b2 : decide (0 < m) = true := decide_eq_true hm0
      have e0 := MM.o5.cell (j := 0) rfl
      have f0 := MM.o5.frozen 0
      have iw : IntKind.i64.wrap ((X : Int) - 1) = ((X - 1 : Nat) : Int) := (IntWalk.i64_in _ (by omega)).trans (by omega)
      have iw2 : IntKind.i64.wrap ((m : Int) - 1) = ((m - 1 : Nat) : Int) := (IntWalk.i64_in _ (by omega)).trans (by omega)
      have iw3 : (((m - 1 : Nat) : Nat) : Int).tdiv 2 = (((m - 1) / 2 : Nat) : Int) := (Int.ofNat_tdiv (m - 1) 2).symm
      have iw4 : IntKind.i64.wrap (((m - 1) / 2 : Nat) : Int) = (((m - 1) / 2 : Nat) : Int) := IntWalk.i64_in _ (by omega)
      have HUP := Lib.hid hup
      obtain ⟨m1, hm1⟩ : ∃ y, y = m - 1 := ⟨_, rfl⟩
      obtain ⟨m2, hm2⟩ : ∃ y, y = (m - 1) / 2 := ⟨_, rfl⟩
      obtain ⟨X1, hX1⟩ : ∃ y, y = X - 1 := ⟨_, rfl⟩
      rw [← hX1] at iw
      rw [← hm2] at iw3 iw4
      rw [← hm1] at iw2 iw3
      have HM2 := Lib.hid hm2
      have HX1 := Lib.hid hX1
      clear hm1 hm2 hX1 hup
      go_wp2_with fail
      go_roundg m2
      case rel => exact ⟨m2, X1, by have := HM2.out; omega, by omega, rfl, by have := HX1.out; omega, by (have h1 := HM2.out; have h2 := HX1.out; have h3 := HUP.out; rw [← h1] at h3; omega), MM.high _⟩
      case measure => have := HM2.out; omega
    · obtain rfl : m = 0 := by omega
      have h0 := dpt_zero
      obtain rfl : X = H := by have := HH.out; have := HDL.out; omega
      clear hm0 hX h0
      go_upto_region 7 with fail
      have MM1 := MM.one rfl rfl (n : Int)
      obtain ⟨v7, hv7⟩ : ∃ v, v = Value.slice (some ⟨wr.heap.size, 0, none⟩) 1 1 := ⟨_, rfl⟩
      obtain ⟨w1, hw1⟩ : ∃ x, x = wr.alloc (.cells #[.int .i64 (n : Int)] 3) := ⟨_, rfl⟩
      rw [← hv7, ← hw1] at MM1 ⊢
      clear MM hv7 hw1
      go_wp2_with fail
      go_loopg [7, 8, 9, 10] (X + 1) (fun G s7 s8 s9 s10 wx => ∃ (hh : Nat) (vL vT v7 v9 v10 : Value) (lv : List Int), hh ≤ X + 1 ∧ G = X + 1 - hh ∧ s7 = v7 ∧ s8 = .int .i64 hh ∧ s9 = v9 ∧ s10 = v10 ∧ MemB w g V (X : Int) b vL vT v7 (.slice none 0 0) lv (tbsL F n (min (2 ^ hh - 1) (2 ^ X - 1))) (seqI (2 ^ hh * (n + 1) - 1) (2 ^ hh)) [] wx ∧ Hid (hh ≤ X → vL = .slice none 0 0 ∧ lv = []) ∧ Hid (hh = X + 1 → lv = lvsL t (2 ^ X * (n + 1) - 1) (2 ^ X)))
      case atStart => exact ⟨0, _, _, v7, _, _, [], by omega, rfl, rfl, rfl, rfl, rfl, (by
        have e1 : min (2 ^ 0 - 1) (2 ^ X - 1) = 0 := by simp
        have e2 : seqI (2 ^ 0 * (n + 1) - 1) (2 ^ 0) = [(n : Int)] := by simp [seqI]
        rw [e1, e2]
        exact MM1), Lib.hid (fun _ => ⟨rfl, rfl⟩), Lib.hid (fun h => by omega)⟩
      case round =>
        clear MM1
        obtain ⟨hh, vL, vT, v7, v9, v10, lv, hhle, rfl, rfl, rfl, rfl, rfl, MM, HLV, HLE⟩ := hrel
        have e0 := MM.o5.cell (j := 0) rfl
        by_cases hle : hh ≤ X
        · have b1 : decide ((hh : Int) ≤ (X : Int)) = true := decide_eq_true (by omega)
          have b2 : decide (hh ≤ X) = true := decide_eq_true hle
          obtain ⟨rfl, rfl⟩ := HLV.out hle
          obtain ⟨P2, hP2⟩ : ∃ P2, P2 = 2 ^ hh := ⟨_, rfl⟩
          obtain ⟨a, ha⟩ : ∃ a, a = 2 ^ hh * (n + 1) - 1 := ⟨_, rfl⟩
          have hP1 : 1 ≤ P2 := by rw [hP2]; exact Nat.two_pow_pos hh
          have hP64 : P2 ≤ 64 := by rw [hP2]; exact (Nat.pow_le_pow_right (by decide) (by have := HH.out; omega) : 2 ^ hh ≤ 2 ^ 6)
          have ha2 : a ≤ 10000 := by
            have h1 : 2 ^ hh * (n + 1) ≤ 64 * 129 := Nat.mul_le_mul (by rw [← hP2]; exact hP64) (by omega)
            omega
          rw [← hP2] at MM
          rw [show P2 * (n + 1) - 1 = a by rw [ha, hP2]] at MM
          have HA2 := Lib.hid ha
          have HP2 := Lib.hid hP2
          have HLEH := Lib.hid hle
          clear hP2 ha
          by_cases hlt : hh < X
          · obtain ⟨up1, up2⟩ := pow_up hlt
            rw [← HP2.out] at up1
            have hm1 : min (P2 - 1) (2 ^ X - 1) = P2 - 1 + 0 := by rw [Nat.min_eq_left (by omega)]; rfl
            rw [hm1] at MM
            have HUP := Lib.hid up1
            have HUP2 := Lib.hid up2
            have HLT := Lib.hid hlt
            clear hm1 up1 up2
            go_wp2_with fail
            clear e0
            go_loopg [9, 10] P2 (fun G s9 s10 wy => ∃ (i : Nat) (vT v9 : Value), i ≤ P2 ∧ G = P2 - i ∧ s9 = v9 ∧ s10 = .int .i64 i ∧ MemB w g V (X : Int) b (.slice none 0 0) vT u7 v9 [] (tbsL F n (P2 - 1 + i)) (seqI a P2) (seqI (2 * a + 1) (2 * i)) wy)
            case atStart => exact ⟨0, vT, _, by omega, rfl, rfl, rfl, MM⟩
            case round =>
              clear MM
              obtain ⟨i, vT, v9, hi, rfl, rfl, rfl, MM⟩ := hrel
              have hw7 := MM.w7
              rw [seqI_len] at hw7
              obtain ⟨A7, c7, rfl, h7⟩ := row_form hw7
              clear hw7
              by_cases hit : i < P2
              · have c1 : decide ((i : Int) < (P2 : Int)) = true := decide_eq_true (by omega)
                have c2 : decide (i < P2) = true := decide_eq_true hit
                obtain ⟨x, hx⟩ : ∃ x, x = a + i := ⟨_, rfl⟩
                have hxm : mapN n (P2 - 1 + i) = x := by rw [HP2.out, mapN_level (by rw [← HP2.out]; exact hit), hx, HA2.out]
                have hxin : x < t.tb.length := by rw [← hxm]; exact HO.out.inner (by have h1 := HUP.out; have h2 := HUP2.out; omega)
                obtain ⟨b7, o7, rfl, hd7⟩ := (row_rd h7).int (k := i) (by rw [seqI_len]; exact hit)
                have r7 := hd7 i (by rw [seqI_len]; exact hit)
                rw [seqI_get hit, ← hx] at r7
                have o2 := MM.o2
                rw [HV.out] at o2
                have y3 := o2.cell (j := 3) rfl
                have e3 := MM.o5.cell (j := 3) rfl
                obtain ⟨bT, oT, AT, cT, rfl, hcT, hFx, _, _⟩ := HF.out x hxin
                have t0 := kept_cell MM.k hcT
                have c3 : decide ((x : Int) < (t.tb.length : Int)) = true := decide_eq_true (by omega)
                have c4 : decide (x < t.tb.length) = true := decide_eq_true hxin
                obtain ⟨lx, hlx⟩ : ∃ y, y = (t.tb.getD x []).length := ⟨_, rfl⟩
                rw [hFx, ← hlx] at t0
                rw [← hlx] at hFx
                have HFE := Lib.hid (show tbsL F n (P2 - 1 + (i + 1)) = tbsL F n (P2 - 1 + i) ++ [.slice AT lx cT] by rw [show P2 - 1 + (i + 1) = P2 - 1 + i + 1 by omega, tbsL_succ, hxm, hFx])
                have HXX := Lib.hid hx
                have HCT := Lib.hid hcT
                have HLF := Lib.hid hFx
                clear hcT hFx hlx hd7 o2 hxm hx
                go_upto_region 14 with fail
                refine region_x (fun w' => Kept wr w') [] (by kernel_rfl) (kept_drew (kept_refl _)) (fun hHeld => ?_)
                refine x_take (i := 0) (oi := { dst := some 40, op := Op.move (Operand.tmp 7), type := 24, pos := "ref.go:156", after := #[], guard := none }) (v := ?_) rfl (by kernel_rfl) (by kernel_rfl) (by kernel_rfl) (by kernel_rfl) (by kernel_rfl) (fun _ _ _ h => h) (Or.inl ⟨rfl, ?_⟩) (by assumption) ?_
                rotate_left
                · (intro w' hSw; replace r7 := kept_cell hSw r7; replace y3 := kept_cell hSw y3; go_simp; try with_reducible rfl)
                try simp only [Act.put, List.setIfInBounds_toArray, List.set_cons_zero, List.set_cons_succ]
                refine x_take (i := 1) (oi := { dst := some 41, op := Op.move (Operand.tmp 10), type := 3, pos := "ref.go:156", after := #[], guard := none }) (v := ?_) rfl (by kernel_rfl) (by kernel_rfl) (by kernel_rfl) (by kernel_rfl) (by kernel_rfl) (fun _ _ _ h => h) (Or.inl ⟨rfl, ?_⟩) (by assumption) ?_
                rotate_left
                · (intro w' hSw; replace r7 := kept_cell hSw r7; replace y3 := kept_cell hSw y3; go_simp; try with_reducible rfl)
                try simp only [Act.put, List.setIfInBounds_toArray, List.set_cons_zero, List.set_cons_succ]
                refine x_take (i := 2) (oi := { dst := some 42, op := Op.indexAddr 24 (Operand.tmp 40) (Operand.tmp 41), type := 0, pos := "ref.go:156", after := #[{ on := 0, ground := Ground.data }, { on := 1, ground := Ground.data }], guard := none }) (v := ?_) rfl (by kernel_rfl) (by kernel_rfl) (by kernel_rfl) (by kernel_rfl) (by kernel_rfl) (fun _ _ _ h => h) (Or.inl ⟨rfl, ?_⟩) (by assumption) ?_
                rotate_left
                · (intro w' hSw; replace r7 := kept_cell hSw r7; replace y3 := kept_cell hSw y3; go_simp; try with_reducible rfl)
                try simp only [Act.put, List.setIfInBounds_toArray, List.set_cons_zero, List.set_cons_succ]
                refine x_take (i := 3) (oi := { dst := some 43, op := Op.load 3 (Operand.tmp 42), type := 3, pos := "ref.go:156", after := #[{ on := 2, ground := Ground.data }], guard := none }) (v := ?_) rfl (by kernel_rfl) (by kernel_rfl) (by kernel_rfl) (by kernel_rfl) (by kernel_rfl) (fun _ _ _ h => h) (Or.inl ⟨rfl, ?_⟩) (by assumption) ?_
                rotate_left
                · (intro w' hSw; replace r7 := kept_cell hSw r7; replace y3 := kept_cell hSw y3; go_simp; try with_reducible rfl)
                try simp only [Act.put, List.setIfInBounds_toArray, List.set_cons_zero, List.set_cons_succ]
                refine x_take (i := 4) (oi := { dst := some 44, op := Op.fieldAddr 27 (Operand.tmp 2) 3, type := 0, pos := "ref.go:156", after := #[], guard := none }) (v := ?_) rfl (by kernel_rfl) (by kernel_rfl) (by kernel_rfl) (by kernel_rfl) (by kernel_rfl) (fun _ _ _ h => h) (Or.inl ⟨rfl, ?_⟩) (by assumption) ?_
                rotate_left
                · (intro w' hSw; replace r7 := kept_cell hSw r7; replace y3 := kept_cell hSw y3; go_simp; try with_reducible rfl)
                try simp only [Act.put, List.setIfInBounds_toArray, List.set_cons_zero, List.set_cons_succ]
                refine x_take (i := 5) (oi := { dst := some 45, op := Op.load 25 (Operand.tmp 44), type := 25, pos := "ref.go:156", after := #[{ on := 4, ground := Ground.data }], guard := none }) (v := ?_) rfl (by kernel_rfl) (by kernel_rfl) (by kernel_rfl) (by kernel_rfl) (by kernel_rfl) (fun _ _ _ h => h) (Or.inl ⟨rfl, ?_⟩) (by assumption) ?_
                rotate_left
                · (intro w' hSw; replace r7 := kept_cell hSw r7; replace y3 := kept_cell hSw y3; go_simp; try with_reducible rfl)
                try simp only [Act.put, List.setIfInBounds_toArray, List.set_cons_zero, List.set_cons_succ]
                refine x_take (i := 6) (oi := { dst := some 46, op := Op.call { callee := Callee.builtin Builtin.len, args := #[Operand.tmp 45], argTypes := #[25] }, type := 3, pos := "ref.go:156", after := #[{ on := 5, ground := Ground.data }], guard := none }) (v := ?_) rfl (by kernel_rfl) (by kernel_rfl) (by kernel_rfl) (by kernel_rfl) (by kernel_rfl) (fun _ _ _ h => h) (Or.inl ⟨rfl, ?_⟩) (by assumption) ?_
                rotate_left
                · (intro w' hSw; replace r7 := kept_cell hSw r7; replace y3 := kept_cell hSw y3; go_simp; try with_reducible rfl)
                try simp only [Act.put, List.setIfInBounds_toArray, List.set_cons_zero, List.set_cons_succ]
                refine x_take (i := 7) (oi := { dst := some 47, op := Op.binOp BinOp.lss 3 (Operand.tmp 43) (Operand.tmp 46) 3, type := 4, pos := "ref.go:156", after := #[{ on := 3, ground := Ground.data }, { on := 6, ground := Ground.data }], guard := none }) (v := ?_) rfl (by kernel_rfl) (by kernel_rfl) (by kernel_rfl) (by kernel_rfl) (by kernel_rfl) (fun _ _ _ h => h) (Or.inl ⟨rfl, ?_⟩) (by assumption) ?_
                rotate_left
                · (intro w' hSw; replace r7 := kept_cell hSw r7; replace y3 := kept_cell hSw y3; go_simp; try with_reducible rfl)
                try simp only [Act.put, List.setIfInBounds_toArray, List.set_cons_zero, List.set_cons_succ]
                refine x_done (by kernel_rfl) ?_ _
                have H6 := hHeld
                have q7 := r7; have p3 := y3; have s0 := t0; have d3 := e3
                replace r7 := kept_cell H6 r7
                replace y3 := kept_cell H6 y3
                replace t0 := kept_cell H6 t0
                replace e3 := kept_cell H6 e3
                have HIT := Lib.hid hit
                go_upto_region 15 with fail
                refine region_x (fun w' => w'.cell? ⟨b7, o7 + i, none⟩ = some (.int .i64 (x : Int)) ∧ w'.cell? ⟨g, 3, none⟩ = some (.slice (some ⟨bT, oT, none⟩) t.tb.length d) ∧ w'.cell? ⟨bT, oT + x, none⟩ = some (.slice AT lx cT) ∧ w'.cell? ⟨g + 2, 3, none⟩ = some vT) [13] (by kernel_rfl) ?_ (fun hHeld => ?_)
                · exact ⟨cell_drew r7, cell_drew y3, cell_drew t0, cell_drew e3⟩
                refine x_take (i := 0) (oi := { dst := some 48, op := Op.fieldAddr 27 (Operand.tmp 5) 3, type := 0, pos := "ref.go:157", after := #[], guard := none }) (v := ?_) rfl (by kernel_rfl) (by kernel_rfl) (by kernel_rfl) (by kernel_rfl) (by kernel_rfl) (fun _ _ _ h => h) (Or.inl ⟨rfl, ?_⟩) (by assumption) ?_
                rotate_left
                · (intro w hSw; (try dsimp only at hSw); (try obtain ⟨hSa, hSb⟩ := hSw); (try obtain ⟨hSb, hSc⟩ := hSb); (try obtain ⟨hSc, hSd⟩ := hSc); (try obtain ⟨hSd, hSe⟩ := hSd); (try obtain ⟨hSe, hSf⟩ := hSe); go_simp; try with_reducible rfl)
                try simp only [Act.put, List.setIfInBounds_toArray, List.set_cons_zero, List.set_cons_succ]
                refine x_take (i := 1) (oi := { dst := some 49, op := Op.load 25 (Operand.tmp 48), type := 25, pos := "ref.go:157", after := #[{ on := 0, ground := Ground.data }], guard := none }) (v := ?_) rfl (by kernel_rfl) (by kernel_rfl) (by kernel_rfl) (by kernel_rfl) (by kernel_rfl) (fun _ _ _ h => h) (Or.inl ⟨rfl, ?_⟩) (by assumption) ?_
                rotate_left
                · (intro w hSw; (try dsimp only at hSw); (try obtain ⟨hSa, hSb⟩ := hSw); (try obtain ⟨hSb, hSc⟩ := hSb); (try obtain ⟨hSc, hSd⟩ := hSc); (try obtain ⟨hSd, hSe⟩ := hSd); (try obtain ⟨hSe, hSf⟩ := hSe); go_simp; try with_reducible rfl)
                try simp only [Act.put, List.setIfInBounds_toArray, List.set_cons_zero, List.set_cons_succ]
                refine x_take (i := 2) (oi := { dst := some 50, op := Op.fieldAddr 27 (Operand.tmp 2) 3, type := 0, pos := "ref.go:157", after := #[], guard := none }) (v := ?_) rfl (by kernel_rfl) (by kernel_rfl) (by kernel_rfl) (by kernel_rfl) (by kernel_rfl) (fun _ _ _ h => h) (Or.inl ⟨rfl, ?_⟩) (by assumption) ?_
                rotate_left
                · (intro w hSw; (try dsimp only at hSw); (try obtain ⟨hSa, hSb⟩ := hSw); (try obtain ⟨hSb, hSc⟩ := hSb); (try obtain ⟨hSc, hSd⟩ := hSc); (try obtain ⟨hSd, hSe⟩ := hSd); (try obtain ⟨hSe, hSf⟩ := hSe); go_simp; try with_reducible rfl)
                try simp only [Act.put, List.setIfInBounds_toArray, List.set_cons_zero, List.set_cons_succ]
                refine x_take (i := 3) (oi := { dst := some 51, op := Op.load 25 (Operand.tmp 50), type := 25, pos := "ref.go:157", after := #[{ on := 2, ground := Ground.data }], guard := none }) (v := ?_) rfl (by kernel_rfl) (by kernel_rfl) (by kernel_rfl) (by kernel_rfl) (by kernel_rfl) (fun _ _ _ h => h) (Or.inl ⟨rfl, ?_⟩) (by assumption) ?_
                rotate_left
                · (intro w hSw; (try dsimp only at hSw); (try obtain ⟨hSa, hSb⟩ := hSw); (try obtain ⟨hSb, hSc⟩ := hSb); (try obtain ⟨hSc, hSd⟩ := hSc); (try obtain ⟨hSd, hSe⟩ := hSd); (try obtain ⟨hSe, hSf⟩ := hSe); go_simp; try with_reducible rfl)
                try simp only [Act.put, List.setIfInBounds_toArray, List.set_cons_zero, List.set_cons_succ]
                refine x_take (i := 4) (oi := { dst := some 52, op := Op.move (Operand.tmp 7), type := 24, pos := "ref.go:157", after := #[], guard := none }) (v := ?_) rfl (by kernel_rfl) (by kernel_rfl) (by kernel_rfl) (by kernel_rfl) (by kernel_rfl) (fun _ _ _ h => h) (Or.inl ⟨rfl, ?_⟩) (by assumption) ?_
                rotate_left
                · (intro w hSw; (try dsimp only at hSw); (try obtain ⟨hSa, hSb⟩ := hSw); (try obtain ⟨hSb, hSc⟩ := hSb); (try obtain ⟨hSc, hSd⟩ := hSc); (try obtain ⟨hSd, hSe⟩ := hSd); (try obtain ⟨hSe, hSf⟩ := hSe); go_simp; try with_reducible rfl)
                try simp only [Act.put, List.setIfInBounds_toArray, List.set_cons_zero, List.set_cons_succ]
                refine x_take (i := 5) (oi := { dst := some 53, op := Op.move (Operand.tmp 10), type := 3, pos := "ref.go:157", after := #[], guard := none }) (v := ?_) rfl (by kernel_rfl) (by kernel_rfl) (by kernel_rfl) (by kernel_rfl) (by kernel_rfl) (fun _ _ _ h => h) (Or.inl ⟨rfl, ?_⟩) (by assumption) ?_
                rotate_left
                · (intro w hSw; (try dsimp only at hSw); (try obtain ⟨hSa, hSb⟩ := hSw); (try obtain ⟨hSb, hSc⟩ := hSb); (try obtain ⟨hSc, hSd⟩ := hSc); (try obtain ⟨hSd, hSe⟩ := hSd); (try obtain ⟨hSe, hSf⟩ := hSe); go_simp; try with_reducible rfl)
                try simp only [Act.put, List.setIfInBounds_toArray, List.set_cons_zero, List.set_cons_succ]
                refine x_take (i := 6) (oi := { dst := some 54, op := Op.indexAddr 24 (Operand.tmp 52) (Operand.tmp 53), type := 0, pos := "ref.go:157", after := #[{ on := 4, ground := Ground.data }, { on := 5, ground := Ground.data }], guard := none }) (v := ?_) rfl (by kernel_rfl) (by kernel_rfl) (by kernel_rfl) (by kernel_rfl) (by kernel_rfl) (fun _ _ _ h => h) (Or.inl ⟨rfl, ?_⟩) (by assumption) ?_
                rotate_left
                · (intro w hSw; (try dsimp only at hSw); (try obtain ⟨hSa, hSb⟩ := hSw); (try obtain ⟨hSb, hSc⟩ := hSb); (try obtain ⟨hSc, hSd⟩ := hSc); (try obtain ⟨hSd, hSe⟩ := hSd); (try obtain ⟨hSe, hSf⟩ := hSe); go_simp; try with_reducible rfl)
                try simp only [Act.put, List.setIfInBounds_toArray, List.set_cons_zero, List.set_cons_succ]
                refine x_take (i := 7) (oi := { dst := some 55, op := Op.load 3 (Operand.tmp 54), type := 3, pos := "ref.go:157", after := #[{ on := 6, ground := Ground.data }], guard := none }) (v := ?_) rfl (by kernel_rfl) (by kernel_rfl) (by kernel_rfl) (by kernel_rfl) (by kernel_rfl) (fun _ _ _ h => h) (Or.inl ⟨rfl, ?_⟩) (by assumption) ?_
                rotate_left
                · (intro w hSw; (try dsimp only at hSw); (try obtain ⟨hSa, hSb⟩ := hSw); (try obtain ⟨hSb, hSc⟩ := hSb); (try obtain ⟨hSc, hSd⟩ := hSc); (try obtain ⟨hSd, hSe⟩ := hSd); (try obtain ⟨hSe, hSf⟩ := hSe); go_simp; try with_reducible rfl)
                try simp only [Act.put, List.setIfInBounds_toArray, List.set_cons_zero, List.set_cons_succ]
                refine x_take (i := 8) (oi := { dst := some 56, op := Op.indexAddr 25 (Operand.tmp 51) (Operand.tmp 55), type := 0, pos := "ref.go:157", after := #[{ on := 3, ground := Ground.data }, { on := 7, ground := Ground.data }], guard := none }) (v := ?_) rfl (by kernel_rfl) (by kernel_rfl) (by kernel_rfl) (by kernel_rfl) (by kernel_rfl) (fun _ _ _ h => h) (Or.inl ⟨rfl, ?_⟩) (by assumption) ?_
                rotate_left
                · (intro w hSw; (try dsimp only at hSw); (try obtain ⟨hSa, hSb⟩ := hSw); (try obtain ⟨hSb, hSc⟩ := hSb); (try obtain ⟨hSc, hSd⟩ := hSc); (try obtain ⟨hSd, hSe⟩ := hSd); (try obtain ⟨hSe, hSf⟩ := hSe); go_simp; try with_reducible rfl)
                try simp only [Act.put, List.setIfInBounds_toArray, List.set_cons_zero, List.set_cons_succ]
                refine x_take (i := 9) (oi := { dst := some 57, op := Op.load 24 (Operand.tmp 56), type := 24, pos := "ref.go:157", after := #[{ on := 8, ground := Ground.data }], guard := none }) (v := ?_) rfl (by kernel_rfl) (by kernel_rfl) (by kernel_rfl) (by kernel_rfl) (by kernel_rfl) (fun _ _ _ h => h) (Or.inl ⟨rfl, ?_⟩) (by assumption) ?_
                rotate_left
                · (intro w hSw; (try dsimp only at hSw); (try obtain ⟨hSa, hSb⟩ := hSw); (try obtain ⟨hSb, hSc⟩ := hSb); (try obtain ⟨hSc, hSd⟩ := hSc); (try obtain ⟨hSd, hSe⟩ := hSd); (try obtain ⟨hSe, hSf⟩ := hSe); go_simp; try with_reducible rfl)
                try simp only [Act.put, List.setIfInBounds_toArray, List.set_cons_zero, List.set_cons_succ]
                refine x_one (i := 10) (o := { dst := some 58, op := Op.buildSlice 25 1 #[(0, Operand.tmp 57)], type := 25, pos := "ref.go:157", after := #[{ on := 9, ground := Ground.data }], guard := none }) (by kernel_rfl) rfl (fun K hK => ?_)
                (go_simp)
                refine hK.out _ _ ?_ (fun hHeld => ?_)
                · (try dsimp only); first | exact ⟨cell_drew r7, cell_drew y3, cell_drew t0, cell_drew e3⟩ | exact ⟨cell_drew (cell_drew (cell_alloc q7 _)), cell_drew (cell_drew (cell_alloc p3 _)), cell_drew (cell_drew (cell_alloc s0 _)), cell_drew (cell_drew (cell_alloc d3 _))⟩ | exact ⟨u7', u3', ut', c33⟩
                clear hK K
                try simp only [Act.put, List.setIfInBounds_toArray, List.set_cons_zero, List.set_cons_succ]
                refine x_one (i := 11) (o := { dst := some 59, op := Op.call { callee := Callee.builtin Builtin.append, args := #[Operand.tmp 49, Operand.tmp 58], argTypes := #[25, 25] }, type := 25, pos := "ref.go:157", after := #[{ on := 1, ground := Ground.data }, { on := 10, ground := Ground.data }], guard := none }) (by kernel_rfl) rfl (fun K hK => ?_)
                (have MC := MM.step (kept_drew (kept_drew (kept_alloc (kept_refl wr) (.cells #[.slice AT lx cT] 24)))); refine step_own (g + 3) rfl (.tmp 49) (.tmp 58) 25 24 (.slice none 0 0) 1 24 rfl Tryz.underlying25 infoS rfl (by omega) (by omega) vT (P2 - 1 + i) 1 1 ⟨wr.heap.size, 0, none⟩ (tbsL F n (P2 - 1 + i)) [.slice AT lx cT] rfl rfl rfl (news_rd (((Own.new wr 24 [.slice AT lx cT]).rd).kept (kept_drew (kept_drew (kept_refl _))))) (by intro u hu; rw [List.mem_singleton.1 hu]; rfl) (by have h := MC.rT; rw [tbsL_len] at h; exact h) (by have := MC.o5.lt; omega) (by omega) ?_; intro v1 w1 hr1 hg1 hn1; obtain ⟨A9, c9, rfl, hr9⟩ := row_form hr1; have o51 := MC.o5.grown hg1 (blk_ne MC.rT (by omega)); have f3 := o51.frozen 3; have c33 := o51.cell (j := 3) rfl; have o21 := MC.o2.grown hg1 (blk_ne MC.rT (by omega)); rw [HV.out] at o21; have u3' := o21.cell (j := 3) rfl; have w71 := MC.w7.kept hg1 (rows_apart MC.w7 MC.rT (by decide)); have ut' := kept_cell (kept_grown MC.k MC.rT (by have := MC.hg; omega) hg1) HCT.out; rw [HLF.out] at ut'; have u7' : w1.cell? ⟨b7, o7 + i, none⟩ = some (.int .i64 (x : Int)) := by { obtain ⟨b8, o8, e8, hd8⟩ := (row_rd w71).int (k := i) (by rw [seqI_len]; exact HIT.out); cases e8; have h := hd8 i (by rw [seqI_len]; exact HIT.out); rw [seqI_get HIT.out, ← HXX.out] at h; exact h }; have MA := MC.appT (y := .slice AT lx cT) (by rw [tbsL_len]; exact hr1) hg1)
                refine hK.out _ _ ?_ (fun hHeld => ?_)
                · (try dsimp only); first | exact ⟨cell_drew r7, cell_drew y3, cell_drew t0, cell_drew e3⟩ | exact ⟨cell_drew (cell_drew (cell_alloc q7 _)), cell_drew (cell_drew (cell_alloc p3 _)), cell_drew (cell_drew (cell_alloc s0 _)), cell_drew (cell_drew (cell_alloc d3 _))⟩ | exact ⟨u7', u3', ut', c33⟩
                clear hK K
                try simp only [Act.put, List.setIfInBounds_toArray, List.set_cons_zero, List.set_cons_succ]
                refine x_take (i := 12) (oi := { dst := some 60, op := Op.fieldAddr 27 (Operand.tmp 5) 3, type := 0, pos := "ref.go:157", after := #[{ on := 0, ground := Ground.phase }, { on := 1, ground := Ground.phase }, { on := 2, ground := Ground.phase }, { on := 3, ground := Ground.phase }, { on := 4, ground := Ground.phase }, { on := 5, ground := Ground.phase }, { on := 6, ground := Ground.phase }, { on := 7, ground := Ground.phase }, { on := 8, ground := Ground.phase }, { on := 9, ground := Ground.phase }, { on := 10, ground := Ground.phase }, { on := 11, ground := Ground.phase }], guard := none }) (v := ?_) rfl (by kernel_rfl) (by kernel_rfl) (by kernel_rfl) (by kernel_rfl) (by kernel_rfl) (fun _ _ _ h => h) (Or.inl ⟨rfl, ?_⟩) (by assumption) ?_
                rotate_left
                · (intro w hSw; (try dsimp only at hSw); (try obtain ⟨hSa, hSb⟩ := hSw); (try obtain ⟨hSb, hSc⟩ := hSb); (try obtain ⟨hSc, hSd⟩ := hSc); (try obtain ⟨hSd, hSe⟩ := hSd); (try obtain ⟨hSe, hSf⟩ := hSe); go_simp; try with_reducible rfl)
                try simp only [Act.put, List.setIfInBounds_toArray, List.set_cons_zero, List.set_cons_succ]
                refine x_last (i := 13) (o := { dst := none, op := Op.store 25 (Operand.tmp 60) (Operand.tmp 59), type := 0, pos := "ref.go:157", after := #[{ on := 12, ground := Ground.data }, { on := 11, ground := Ground.data }, { on := 11, ground := Ground.chain }, { on := 0, ground := Ground.phase }, { on := 1, ground := Ground.phase }, { on := 2, ground := Ground.phase }, { on := 3, ground := Ground.phase }, { on := 4, ground := Ground.phase }, { on := 5, ground := Ground.phase }, { on := 6, ground := Ground.phase }, { on := 7, ground := Ground.phase }, { on := 8, ground := Ground.phase }, { on := 9, ground := Ground.phase }, { on := 10, ground := Ground.phase }, { on := 11, ground := Ground.phase }], guard := none }) (by kernel_rfl) rfl (by simp) (fun K hK => ?_)
                (go_simp)
                refine hK.out _ _ ?_
                clear hK K
                try simp only [Act.put, List.setIfInBounds_toArray, List.set_cons_zero, List.set_cons_succ]
                refine x_done (by kernel_rfl) ?_ _
                rw [← HFE.out] at MA
                obtain ⟨w15, hw15⟩ : ∃ x, x = w1.setCell ⟨g + 2, 3, none⟩ (.slice A9 (P2 - 1 + i + 1) c9) := ⟨_, rfl⟩
                rw [← hw15] at MA ⊢
                clear r7 y3 t0 e3 q7 p3 s0 d3 f3 c33 o51 o21 u3' u7' ut' w71 MC hr1 hr9 hg1 hn1 hw15 MM h7 c1 c2 c3 c4
                have ex1 : IntKind.i64.wrap (2 * (x : Int)) = ((2 * x : Nat) : Int) := (IntWalk.i64_in _ (by omega)).trans (by omega)
                have ex2 : IntKind.i64.wrap (((2 * x : Nat) : Int) + 1) = ((2 * x + 1 : Nat) : Int) := (IntWalk.i64_in _ (by omega)).trans (by omega)
                have ex3 : IntKind.i64.wrap (((2 * x : Nat) : Int) + 2) = ((2 * x + 2 : Nat) : Int) := (IntWalk.i64_in _ (by omega)).trans (by omega)
                obtain ⟨y1, hy1⟩ : ∃ y, y = 2 * x + 1 := ⟨_, rfl⟩
                obtain ⟨y2, hy2⟩ : ∃ y, y = 2 * x + 2 := ⟨_, rfl⟩
                rw [← hy1] at ex2
                rw [← hy2] at ex3
                obtain ⟨xx, hxx⟩ : ∃ y, y = 2 * x := ⟨_, rfl⟩
                rw [← hxx] at ex1 ex2 ex3
                have HSQ := Lib.hid (show seqI (2 * a + 1) (2 * (i + 1)) = seqI (2 * a + 1) (2 * i) ++ [(y1 : Int), (y2 : Int)] by rw [seqI_two, hy1, hy2, ← HXX.out])
                have hlen7 := seqI_len a P2
                obtain ⟨b8, o8, e8, hd8⟩ := (row_rd MA.w7).int (k := i) (by rw [seqI_len]; exact HIT.out)
                cases e8
                have r7 := hd8 i (by rw [seqI_len]; exact HIT.out)
                rw [seqI_get HIT.out, ← HXX.out] at r7
                have ki : IntKind.i64.wrap ((i : Nat) : Int) = i := IntWalk.i64_in _ (by omega)
                clear hd8 hy1 hy2 hxx hlen7
                go_upto_region 17 with fail
                refine region_x (fun w' => w'.cell? ⟨b7, o7 + i, none⟩ = some (.int .i64 (x : Int))) [] (by kernel_rfl) ?_ (fun hHeld => ?_)
                · exact cell_drew r7
                refine x_take (i := 0) (oi := { dst := some 78, op := Op.move (Operand.tmp 9), type := 24, pos := "ref.go:161", after := #[], guard := none }) (v := ?_) rfl (by kernel_rfl) (by kernel_rfl) (by kernel_rfl) (by kernel_rfl) (by kernel_rfl) (fun _ _ _ h => h) (Or.inl ⟨rfl, ?_⟩) (by assumption) ?_
                rotate_left
                · (intro w hSw; (try dsimp only at hSw); (try obtain ⟨hSa, hSb⟩ := hSw); (try obtain ⟨hSb, hSc⟩ := hSb); (try obtain ⟨hSc, hSd⟩ := hSc); (try obtain ⟨hSd, hSe⟩ := hSd); (try obtain ⟨hSe, hSf⟩ := hSe); go_simp; try with_reducible rfl)
                try simp only [Act.put, List.setIfInBounds_toArray, List.set_cons_zero, List.set_cons_succ]
                refine x_take (i := 1) (oi := { dst := some 79, op := Op.move (Operand.tmp 7), type := 24, pos := "ref.go:161", after := #[], guard := none }) (v := ?_) rfl (by kernel_rfl) (by kernel_rfl) (by kernel_rfl) (by kernel_rfl) (by kernel_rfl) (fun _ _ _ h => h) (Or.inl ⟨rfl, ?_⟩) (by assumption) ?_
                rotate_left
                · (intro w hSw; (try dsimp only at hSw); (try obtain ⟨hSa, hSb⟩ := hSw); (try obtain ⟨hSb, hSc⟩ := hSb); (try obtain ⟨hSc, hSd⟩ := hSc); (try obtain ⟨hSd, hSe⟩ := hSd); (try obtain ⟨hSe, hSf⟩ := hSe); go_simp; try with_reducible rfl)
                try simp only [Act.put, List.setIfInBounds_toArray, List.set_cons_zero, List.set_cons_succ]
                refine x_take (i := 2) (oi := { dst := some 80, op := Op.move (Operand.tmp 10), type := 3, pos := "ref.go:161", after := #[], guard := none }) (v := ?_) rfl (by kernel_rfl) (by kernel_rfl) (by kernel_rfl) (by kernel_rfl) (by kernel_rfl) (fun _ _ _ h => h) (Or.inl ⟨rfl, ?_⟩) (by assumption) ?_
                rotate_left
                · (intro w hSw; (try dsimp only at hSw); (try obtain ⟨hSa, hSb⟩ := hSw); (try obtain ⟨hSb, hSc⟩ := hSb); (try obtain ⟨hSc, hSd⟩ := hSc); (try obtain ⟨hSd, hSe⟩ := hSd); (try obtain ⟨hSe, hSf⟩ := hSe); go_simp; try with_reducible rfl)
                try simp only [Act.put, List.setIfInBounds_toArray, List.set_cons_zero, List.set_cons_succ]
                refine x_take (i := 3) (oi := { dst := some 81, op := Op.indexAddr 24 (Operand.tmp 79) (Operand.tmp 80), type := 0, pos := "ref.go:161", after := #[{ on := 1, ground := Ground.data }, { on := 2, ground := Ground.data }], guard := none }) (v := ?_) rfl (by kernel_rfl) (by kernel_rfl) (by kernel_rfl) (by kernel_rfl) (by kernel_rfl) (fun _ _ _ h => h) (Or.inl ⟨rfl, ?_⟩) (by assumption) ?_
                rotate_left
                · (intro w hSw; (try dsimp only at hSw); (try obtain ⟨hSa, hSb⟩ := hSw); (try obtain ⟨hSb, hSc⟩ := hSb); (try obtain ⟨hSc, hSd⟩ := hSc); (try obtain ⟨hSd, hSe⟩ := hSd); (try obtain ⟨hSe, hSf⟩ := hSe); go_simp; try with_reducible rfl)
                try simp only [Act.put, List.setIfInBounds_toArray, List.set_cons_zero, List.set_cons_succ]
                refine x_take (i := 4) (oi := { dst := some 82, op := Op.load 3 (Operand.tmp 81), type := 3, pos := "ref.go:161", after := #[{ on := 3, ground := Ground.data }], guard := none }) (v := ?_) rfl (by kernel_rfl) (by kernel_rfl) (by kernel_rfl) (by kernel_rfl) (by kernel_rfl) (fun _ _ _ h => h) (Or.inl ⟨rfl, ?_⟩) (by assumption) ?_
                rotate_left
                · (intro w hSw; (try dsimp only at hSw); (try obtain ⟨hSa, hSb⟩ := hSw); (try obtain ⟨hSb, hSc⟩ := hSb); (try obtain ⟨hSc, hSd⟩ := hSc); (try obtain ⟨hSd, hSe⟩ := hSd); (try obtain ⟨hSe, hSf⟩ := hSe); go_simp; try with_reducible rfl)
                try simp only [Act.put, List.setIfInBounds_toArray, List.set_cons_zero, List.set_cons_succ]
                refine x_take (i := 5) (oi := { dst := some 83, op := Op.binOp BinOp.mul 3 (Operand.const (Value.int IntKind.i64 2)) (Operand.tmp 82) 3, type := 3, pos := "ref.go:161", after := #[{ on := 4, ground := Ground.data }], guard := none }) (v := ?_) rfl (by kernel_rfl) (by kernel_rfl) (by kernel_rfl) (by kernel_rfl) (by kernel_rfl) (fun _ _ _ h => h) (Or.inl ⟨rfl, ?_⟩) (by assumption) ?_
                rotate_left
                · (intro w hSw; (try dsimp only at hSw); (try obtain ⟨hSa, hSb⟩ := hSw); (try obtain ⟨hSb, hSc⟩ := hSb); (try obtain ⟨hSc, hSd⟩ := hSc); (try obtain ⟨hSd, hSe⟩ := hSd); (try obtain ⟨hSe, hSf⟩ := hSe); go_simp; try with_reducible rfl)
                try simp only [Act.put, List.setIfInBounds_toArray, List.set_cons_zero, List.set_cons_succ]
                refine x_take (i := 6) (oi := { dst := some 84, op := Op.binOp BinOp.add 3 (Operand.tmp 83) (Operand.const (Value.int IntKind.i64 1)) 3, type := 3, pos := "ref.go:161", after := #[{ on := 5, ground := Ground.data }], guard := none }) (v := ?_) rfl (by kernel_rfl) (by kernel_rfl) (by kernel_rfl) (by kernel_rfl) (by kernel_rfl) (fun _ _ _ h => h) (Or.inl ⟨rfl, ?_⟩) (by assumption) ?_
                rotate_left
                · (intro w hSw; (try dsimp only at hSw); (try obtain ⟨hSa, hSb⟩ := hSw); (try obtain ⟨hSb, hSc⟩ := hSb); (try obtain ⟨hSc, hSd⟩ := hSc); (try obtain ⟨hSd, hSe⟩ := hSd); (try obtain ⟨hSe, hSf⟩ := hSe); go_simp; try with_reducible rfl)
                try simp only [Act.put, List.setIfInBounds_toArray, List.set_cons_zero, List.set_cons_succ]
                refine x_take (i := 7) (oi := { dst := some 85, op := Op.move (Operand.tmp 7), type := 24, pos := "ref.go:161", after := #[], guard := none }) (v := ?_) rfl (by kernel_rfl) (by kernel_rfl) (by kernel_rfl) (by kernel_rfl) (by kernel_rfl) (fun _ _ _ h => h) (Or.inl ⟨rfl, ?_⟩) (by assumption) ?_
                rotate_left
                · (intro w hSw; (try dsimp only at hSw); (try obtain ⟨hSa, hSb⟩ := hSw); (try obtain ⟨hSb, hSc⟩ := hSb); (try obtain ⟨hSc, hSd⟩ := hSc); (try obtain ⟨hSd, hSe⟩ := hSd); (try obtain ⟨hSe, hSf⟩ := hSe); go_simp; try with_reducible rfl)
                try simp only [Act.put, List.setIfInBounds_toArray, List.set_cons_zero, List.set_cons_succ]
                refine x_take (i := 8) (oi := { dst := some 86, op := Op.move (Operand.tmp 10), type := 3, pos := "ref.go:161", after := #[], guard := none }) (v := ?_) rfl (by kernel_rfl) (by kernel_rfl) (by kernel_rfl) (by kernel_rfl) (by kernel_rfl) (fun _ _ _ h => h) (Or.inl ⟨rfl, ?_⟩) (by assumption) ?_
                rotate_left
                · (intro w hSw; (try dsimp only at hSw); (try obtain ⟨hSa, hSb⟩ := hSw); (try obtain ⟨hSb, hSc⟩ := hSb); (try obtain ⟨hSc, hSd⟩ := hSc); (try obtain ⟨hSd, hSe⟩ := hSd); (try obtain ⟨hSe, hSf⟩ := hSe); go_simp; try with_reducible rfl)
                try simp only [Act.put, List.setIfInBounds_toArray, List.set_cons_zero, List.set_cons_succ]
                refine x_take (i := 9) (oi := { dst := some 87, op := Op.indexAddr 24 (Operand.tmp 85) (Operand.tmp 86), type := 0, pos := "ref.go:161", after := #[{ on := 7, ground := Ground.data }, { on := 8, ground := Ground.data }], guard := none }) (v := ?_) rfl (by kernel_rfl) (by kernel_rfl) (by kernel_rfl) (by kernel_rfl) (by kernel_rfl) (fun _ _ _ h => h) (Or.inl ⟨rfl, ?_⟩) (by assumption) ?_
                rotate_left
                · (intro w hSw; (try dsimp only at hSw); (try obtain ⟨hSa, hSb⟩ := hSw); (try obtain ⟨hSb, hSc⟩ := hSb); (try obtain ⟨hSc, hSd⟩ := hSc); (try obtain ⟨hSd, hSe⟩ := hSd); (try obtain ⟨hSe, hSf⟩ := hSe); go_simp; try with_reducible rfl)
                try simp only [Act.put, List.setIfInBounds_toArray, List.set_cons_zero, List.set_cons_succ]
                refine x_take (i := 10) (oi := { dst := some 88, op := Op.load 3 (Operand.tmp 87), type := 3, pos := "ref.go:161", after := #[{ on := 9, ground := Ground.data }], guard := none }) (v := ?_) rfl (by kernel_rfl) (by kernel_rfl) (by kernel_rfl) (by kernel_rfl) (by kernel_rfl) (fun _ _ _ h => h) (Or.inl ⟨rfl, ?_⟩) (by assumption) ?_
                rotate_left
                · (intro w hSw; (try dsimp only at hSw); (try obtain ⟨hSa, hSb⟩ := hSw); (try obtain ⟨hSb, hSc⟩ := hSb); (try obtain ⟨hSc, hSd⟩ := hSc); (try obtain ⟨hSd, hSe⟩ := hSd); (try obtain ⟨hSe, hSf⟩ := hSe); go_simp; try with_reducible rfl)
                try simp only [Act.put, List.setIfInBounds_toArray, List.set_cons_zero, List.set_cons_succ]
                refine x_take (i := 11) (oi := { dst := some 89, op := Op.binOp BinOp.mul 3 (Operand.const (Value.int IntKind.i64 2)) (Operand.tmp 88) 3, type := 3, pos := "ref.go:161", after := #[{ on := 10, ground := Ground.data }], guard := none }) (v := ?_) rfl (by kernel_rfl) (by kernel_rfl) (by kernel_rfl) (by kernel_rfl) (by kernel_rfl) (fun _ _ _ h => h) (Or.inl ⟨rfl, ?_⟩) (by assumption) ?_
                rotate_left
                · (intro w hSw; (try dsimp only at hSw); (try obtain ⟨hSa, hSb⟩ := hSw); (try obtain ⟨hSb, hSc⟩ := hSb); (try obtain ⟨hSc, hSd⟩ := hSc); (try obtain ⟨hSd, hSe⟩ := hSd); (try obtain ⟨hSe, hSf⟩ := hSe); go_simp; try with_reducible rfl)
                try simp only [Act.put, List.setIfInBounds_toArray, List.set_cons_zero, List.set_cons_succ]
                refine x_take (i := 12) (oi := { dst := some 90, op := Op.binOp BinOp.add 3 (Operand.tmp 89) (Operand.const (Value.int IntKind.i64 2)) 3, type := 3, pos := "ref.go:161", after := #[{ on := 11, ground := Ground.data }], guard := none }) (v := ?_) rfl (by kernel_rfl) (by kernel_rfl) (by kernel_rfl) (by kernel_rfl) (by kernel_rfl) (fun _ _ _ h => h) (Or.inl ⟨rfl, ?_⟩) (by assumption) ?_
                rotate_left
                · (intro w hSw; (try dsimp only at hSw); (try obtain ⟨hSa, hSb⟩ := hSw); (try obtain ⟨hSb, hSc⟩ := hSb); (try obtain ⟨hSc, hSd⟩ := hSc); (try obtain ⟨hSd, hSe⟩ := hSd); (try obtain ⟨hSe, hSf⟩ := hSe); go_simp; try with_reducible rfl)
                try simp only [Act.put, List.setIfInBounds_toArray, List.set_cons_zero, List.set_cons_succ]
                refine x_one (i := 13) (o := { dst := some 91, op := Op.buildSlice 24 2 #[(0, Operand.tmp 84), (1, Operand.tmp 90)], type := 24, pos := "ref.go:161", after := #[{ on := 6, ground := Ground.data }, { on := 12, ground := Ground.data }], guard := none }) (by kernel_rfl) rfl (fun K hK => ?_)
                (go_simp)
                refine hK.out _ _ ?_ (fun hHeld => ?_)
                · (try dsimp only); first | exact cell_drew r7 | exact cell_drew (cell_alloc r7 _) | exact r77
                clear hK K
                try simp only [Act.put, List.setIfInBounds_toArray, List.set_cons_zero, List.set_cons_succ]
                refine x_one (i := 14) (o := { dst := some 92, op := Op.call { callee := Callee.builtin Builtin.append, args := #[Operand.tmp 78, Operand.tmp 91], argTypes := #[24, 24] }, type := 24, pos := "ref.go:161", after := #[{ on := 0, ground := Ground.data }, { on := 13, ground := Ground.data }], guard := none }) (by kernel_rfl) rfl (fun K hK => ?_)
                (have MC := MA.step (kept_drew (kept_alloc (kept_refl w15) (.cells #[.int .i64 (y1 : Int), .int .i64 (y2 : Int)] 3))); refine step_own (g + 3) rfl (.tmp 78) (.tmp 91) 24 3 (.int .i64 0) 1 8 rfl Tryz.underlying24 info3 rfl (by omega) (by omega) u9 (2 * i) 2 2 ⟨w15.heap.size, 0, none⟩ (ints (seqI (2 * a + 1) (2 * i))) [.int .i64 (y1 : Int), .int .i64 (y2 : Int)] rfl rfl rfl (news_rd (((Own.new w15 3 [.int .i64 (y1 : Int), .int .i64 (y2 : Int)]).rd).kept (kept_drew (kept_refl _)))) (by intro u hu; simp at hu; rcases hu with rfl | rfl <;> rfl) (by have h := MC.w9; rw [seqI_len] at h; exact h) (by have := MC.o5.lt; omega) (by omega) ?_; intro v2 w2 hr2 hg2 hn2; have MB := MC.app9 (ys := [(y1 : Int), (y2 : Int)]) (by rw [seqI_len]; exact hr2) hg2 hn2; have r77 : w2.cell? ⟨b7, o7 + i, none⟩ = some (.int .i64 (x : Int)) := by { obtain ⟨b8, o8, e8, hd8⟩ := (row_rd MB.w7).int (k := i) (by rw [seqI_len]; exact HIT.out); cases e8; have h := hd8 i (by rw [seqI_len]; exact HIT.out); rw [seqI_get HIT.out, ← HXX.out] at h; exact h })
                refine hK.out _ _ ?_ (fun hHeld => ?_)
                · (try dsimp only); first | exact cell_drew r7 | exact cell_drew (cell_alloc r7 _) | exact r77
                clear hK K
                try simp only [Act.put, List.setIfInBounds_toArray, List.set_cons_zero, List.set_cons_succ]
                refine x_take (i := 15) (oi := { dst := some 9, op := Op.assign (Operand.tmp 92), type := 24, pos := "ref.go:161", after := #[{ on := 14, ground := Ground.data }, { on := 14, ground := Ground.chain }, { on := 0, ground := Ground.phase }, { on := 1, ground := Ground.phase }, { on := 2, ground := Ground.phase }, { on := 3, ground := Ground.phase }, { on := 4, ground := Ground.phase }, { on := 5, ground := Ground.phase }, { on := 6, ground := Ground.phase }, { on := 7, ground := Ground.phase }, { on := 8, ground := Ground.phase }, { on := 9, ground := Ground.phase }, { on := 10, ground := Ground.phase }, { on := 11, ground := Ground.phase }, { on := 12, ground := Ground.phase }, { on := 13, ground := Ground.phase }, { on := 14, ground := Ground.phase }], guard := none }) (v := ?_) rfl (by kernel_rfl) (by kernel_rfl) (by kernel_rfl) (by kernel_rfl) (by kernel_rfl) (fun _ _ _ h => h) (Or.inl ⟨rfl, ?_⟩) (by assumption) ?_
                rotate_left
                · (intro w hSw; (try dsimp only at hSw); (try obtain ⟨hSa, hSb⟩ := hSw); (try obtain ⟨hSb, hSc⟩ := hSb); (try obtain ⟨hSc, hSd⟩ := hSc); (try obtain ⟨hSd, hSe⟩ := hSd); (try obtain ⟨hSe, hSf⟩ := hSe); go_simp; try with_reducible rfl)
                try simp only [Act.put, List.setIfInBounds_toArray, List.set_cons_zero, List.set_cons_succ]
                refine x_done (by kernel_rfl) ?_ _
                rw [← HSQ.out] at MB
                clear r7 r77 MA MC
                go_wp2_with fail
                go_roundg (P2 - (i + 1))
                case rel => exact ⟨i + 1, _, v2, by have := HIT.out; omega, rfl, rfl, by go_num, MB⟩
                case measure => have := HIT.out; omega
              · obtain rfl : i = P2 := by omega
                have MT := MM.turn
                rw [HUP.out, HP2.out, seqI_next (by rw [HA2.out])] at MT
                have hmin : min (2 ^ (hh + 1) - 1) (2 ^ X - 1) = 2 ^ (hh + 1) - 1 := Nat.min_eq_left (by have := HUP2.out; omega)
                rw [← hmin] at MT
                have c1 : decide ((i : Int) < (i : Int)) = false := decide_eq_false (by omega)
                have c2 : decide (i < i) = false := decide_eq_false (by omega)
                clear MM hmin h7
                go_wp2_with fail
                go_roundg (X + 1 - (hh + 1))
                case rel => exact ⟨hh + 1, _, vT, _, _, _, [], by have := HLT.out; omega, rfl, rfl, by go_num, rfl, rfl, MT, Lib.hid (fun _ => ⟨rfl, rfl⟩), Lib.hid (fun h => by have := HLT.out; omega)⟩
                case measure => have := HLT.out; omega
          · obtain rfl : hh = X := by omega
            obtain ⟨TB, hTB⟩ : ∃ TB, TB = tbsL F n (min (2 ^ hh - 1) (2 ^ hh - 1)) := ⟨_, rfl⟩
            have HTB := Lib.hid hTB
            have hm1 : min (P2 - 1) (2 ^ hh - 1) = min (2 ^ hh - 1) (2 ^ hh - 1) := by rw [HP2.out]
            rw [hm1, ← hTB] at MM
            obtain ⟨lf1, lf2⟩ := HO.out.leaf (i := 0) (Nat.two_pow_pos hh)
            obtain ⟨bA, oA, rfl, hdA⟩ := HA.out.int (k := 2 ^ hh * (n + 1) - 1 + 0 - t.tb.length) lf2
            have HDA := Lib.hid hdA
            clear hm1 hTB hlt lf1 lf2 hdA
            go_wp2_with fail
            clear e0
            go_loopg [9, 10] P2 (fun G s9 s10 wy => ∃ (i : Nat) (vL v9 : Value), i ≤ P2 ∧ G = P2 - i ∧ s9 = v9 ∧ s10 = .int .i64 i ∧ MemB w g V (hh : Int) b vL vT u7 v9 (lvsL t a i) TB (seqI a P2) (seqI (2 * a + 1) (2 * i)) wy)
            case atStart => exact ⟨0, _, _, by omega, rfl, rfl, rfl, MM⟩
            case round =>
              clear MM
              obtain ⟨i, vL, v9, hi, rfl, rfl, rfl, MM⟩ := hrel
              have hw7 := MM.w7
              rw [seqI_len] at hw7
              obtain ⟨A7, c7, rfl, h7⟩ := row_form hw7
              clear hw7
              by_cases hit : i < P2
              · have c1 : decide ((i : Int) < (P2 : Int)) = true := decide_eq_true (by omega)
                have c2 : decide (i < P2) = true := decide_eq_true hit
                obtain ⟨x, hx⟩ : ∃ x, x = a + i := ⟨_, rfl⟩
                obtain ⟨lf1, lf2⟩ := HO.out.leaf (i := i) (by rw [← HP2.out]; exact hit)
                rw [← HA2.out, ← hx] at lf1 lf2
                obtain ⟨z, hz⟩ : ∃ z, z = x - t.tb.length := ⟨_, rfl⟩
                rw [← hz] at lf2
                obtain ⟨b7, o7, rfl, hd7⟩ := (row_rd h7).int (k := i) (by rw [seqI_len]; exact hit)
                have r7 := hd7 i (by rw [seqI_len]; exact hit)
                rw [seqI_get hit, ← hx] at r7
                have o2 := MM.o2
                rw [HV.out] at o2
                have y2 := o2.cell (j := 2) rfl
                have y3 := o2.cell (j := 3) rfl
                have e2 := MM.o5.cell (j := 2) rfl
                have hcA := HDA.out z lf2
                obtain ⟨y, hy⟩ : ∃ y, y = ia t.lv z := ⟨_, rfl⟩
                rw [← hy] at hcA
                have t0 := kept_cell MM.k hcA
                have c3 : decide ((x : Int) < (t.tb.length : Int)) = false := decide_eq_false (by omega)
                have c4 : decide (x < t.tb.length) = false := decide_eq_false (by omega)
                have c5 : IntKind.i64.wrap ((x : Int) - (t.tb.length : Int)) = (z : Int) := (IntWalk.i64_in _ (by omega)).trans (by omega)
                have HFE := Lib.hid (show lvsL t a (i + 1) = lvsL t a i ++ [y] by rw [lvsL_succ, hy, ← hx, ← hz]; rfl)
                have HXX := Lib.hid hx
                have HCT := Lib.hid hcA
                have hxb : x ≤ 20000 := by omega
                clear hcA hd7 o2 hx hy hz lf1
                go_upto_region 14 with fail
                refine region_x (fun w' => Kept wr w') [] (by kernel_rfl) (kept_drew (kept_refl _)) (fun hHeld => ?_)
                refine x_take (i := 0) (oi := { dst := some 40, op := Op.move (Operand.tmp 7), type := 24, pos := "ref.go:156", after := #[], guard := none }) (v := ?_) rfl (by kernel_rfl) (by kernel_rfl) (by kernel_rfl) (by kernel_rfl) (by kernel_rfl) (fun _ _ _ h => h) (Or.inl ⟨rfl, ?_⟩) (by assumption) ?_
                rotate_left
                · (intro w' hSw; replace r7 := kept_cell hSw r7; replace y3 := kept_cell hSw y3; go_simp; try with_reducible rfl)
                try simp only [Act.put, List.setIfInBounds_toArray, List.set_cons_zero, List.set_cons_succ]
                refine x_take (i := 1) (oi := { dst := some 41, op := Op.move (Operand.tmp 10), type := 3, pos := "ref.go:156", after := #[], guard := none }) (v := ?_) rfl (by kernel_rfl) (by kernel_rfl) (by kernel_rfl) (by kernel_rfl) (by kernel_rfl) (fun _ _ _ h => h) (Or.inl ⟨rfl, ?_⟩) (by assumption) ?_
                rotate_left
                · (intro w' hSw; replace r7 := kept_cell hSw r7; replace y3 := kept_cell hSw y3; go_simp; try with_reducible rfl)
                try simp only [Act.put, List.setIfInBounds_toArray, List.set_cons_zero, List.set_cons_succ]
                refine x_take (i := 2) (oi := { dst := some 42, op := Op.indexAddr 24 (Operand.tmp 40) (Operand.tmp 41), type := 0, pos := "ref.go:156", after := #[{ on := 0, ground := Ground.data }, { on := 1, ground := Ground.data }], guard := none }) (v := ?_) rfl (by kernel_rfl) (by kernel_rfl) (by kernel_rfl) (by kernel_rfl) (by kernel_rfl) (fun _ _ _ h => h) (Or.inl ⟨rfl, ?_⟩) (by assumption) ?_
                rotate_left
                · (intro w' hSw; replace r7 := kept_cell hSw r7; replace y3 := kept_cell hSw y3; go_simp; try with_reducible rfl)
                try simp only [Act.put, List.setIfInBounds_toArray, List.set_cons_zero, List.set_cons_succ]
                refine x_take (i := 3) (oi := { dst := some 43, op := Op.load 3 (Operand.tmp 42), type := 3, pos := "ref.go:156", after := #[{ on := 2, ground := Ground.data }], guard := none }) (v := ?_) rfl (by kernel_rfl) (by kernel_rfl) (by kernel_rfl) (by kernel_rfl) (by kernel_rfl) (fun _ _ _ h => h) (Or.inl ⟨rfl, ?_⟩) (by assumption) ?_
                rotate_left
                · (intro w' hSw; replace r7 := kept_cell hSw r7; replace y3 := kept_cell hSw y3; go_simp; try with_reducible rfl)
                try simp only [Act.put, List.setIfInBounds_toArray, List.set_cons_zero, List.set_cons_succ]
                refine x_take (i := 4) (oi := { dst := some 44, op := Op.fieldAddr 27 (Operand.tmp 2) 3, type := 0, pos := "ref.go:156", after := #[], guard := none }) (v := ?_) rfl (by kernel_rfl) (by kernel_rfl) (by kernel_rfl) (by kernel_rfl) (by kernel_rfl) (fun _ _ _ h => h) (Or.inl ⟨rfl, ?_⟩) (by assumption) ?_
                rotate_left
                · (intro w' hSw; replace r7 := kept_cell hSw r7; replace y3 := kept_cell hSw y3; go_simp; try with_reducible rfl)
                try simp only [Act.put, List.setIfInBounds_toArray, List.set_cons_zero, List.set_cons_succ]
                refine x_take (i := 5) (oi := { dst := some 45, op := Op.load 25 (Operand.tmp 44), type := 25, pos := "ref.go:156", after := #[{ on := 4, ground := Ground.data }], guard := none }) (v := ?_) rfl (by kernel_rfl) (by kernel_rfl) (by kernel_rfl) (by kernel_rfl) (by kernel_rfl) (fun _ _ _ h => h) (Or.inl ⟨rfl, ?_⟩) (by assumption) ?_
                rotate_left
                · (intro w' hSw; replace r7 := kept_cell hSw r7; replace y3 := kept_cell hSw y3; go_simp; try with_reducible rfl)
                try simp only [Act.put, List.setIfInBounds_toArray, List.set_cons_zero, List.set_cons_succ]
                refine x_take (i := 6) (oi := { dst := some 46, op := Op.call { callee := Callee.builtin Builtin.len, args := #[Operand.tmp 45], argTypes := #[25] }, type := 3, pos := "ref.go:156", after := #[{ on := 5, ground := Ground.data }], guard := none }) (v := ?_) rfl (by kernel_rfl) (by kernel_rfl) (by kernel_rfl) (by kernel_rfl) (by kernel_rfl) (fun _ _ _ h => h) (Or.inl ⟨rfl, ?_⟩) (by assumption) ?_
                rotate_left
                · (intro w' hSw; replace r7 := kept_cell hSw r7; replace y3 := kept_cell hSw y3; go_simp; try with_reducible rfl)
                try simp only [Act.put, List.setIfInBounds_toArray, List.set_cons_zero, List.set_cons_succ]
                refine x_take (i := 7) (oi := { dst := some 47, op := Op.binOp BinOp.lss 3 (Operand.tmp 43) (Operand.tmp 46) 3, type := 4, pos := "ref.go:156", after := #[{ on := 3, ground := Ground.data }, { on := 6, ground := Ground.data }], guard := none }) (v := ?_) rfl (by kernel_rfl) (by kernel_rfl) (by kernel_rfl) (by kernel_rfl) (by kernel_rfl) (fun _ _ _ h => h) (Or.inl ⟨rfl, ?_⟩) (by assumption) ?_
                rotate_left
                · (intro w' hSw; replace r7 := kept_cell hSw r7; replace y3 := kept_cell hSw y3; go_simp; try with_reducible rfl)
                try simp only [Act.put, List.setIfInBounds_toArray, List.set_cons_zero, List.set_cons_succ]
                refine x_done (by kernel_rfl) ?_ _
                have H6 := hHeld
                have q7 := r7; have p2 := y2; have p3 := y3; have s0 := t0; have d2 := e2
                replace r7 := kept_cell H6 r7
                replace y2 := kept_cell H6 y2
                replace y3 := kept_cell H6 y3
                replace t0 := kept_cell H6 t0
                replace e2 := kept_cell H6 e2
                have HIT := Lib.hid hit
                go_upto_region 16 with fail
                refine region_x (fun w' => w'.cell? ⟨b7, o7 + i, none⟩ = some (.int .i64 (x : Int)) ∧ w'.cell? ⟨g, 2, none⟩ = some (.slice (some ⟨bA, oA, none⟩) t.lv.length c) ∧ w'.cell? ⟨g, 3, none⟩ = some (.slice T t.tb.length d) ∧ w'.cell? ⟨bA, oA + z, none⟩ = some (.int .i64 y) ∧ w'.cell? ⟨g + 2, 2, none⟩ = some vL) [17] (by kernel_rfl) ?_ (fun hHeld => ?_)
                · exact ⟨cell_drew r7, cell_drew y2, cell_drew y3, cell_drew t0, cell_drew e2⟩
                refine x_take (i := 0) (oi := { dst := some 61, op := Op.fieldAddr 27 (Operand.tmp 5) 2, type := 0, pos := "ref.go:159", after := #[], guard := none }) (v := ?_) rfl (by kernel_rfl) (by kernel_rfl) (by kernel_rfl) (by kernel_rfl) (by kernel_rfl) (fun _ _ _ h => h) (Or.inl ⟨rfl, ?_⟩) (by assumption) ?_
                rotate_left
                · (intro w hSw; (try dsimp only at hSw); (try obtain ⟨hSa, hSb⟩ := hSw); (try obtain ⟨hSb, hSc⟩ := hSb); (try obtain ⟨hSc, hSd⟩ := hSc); (try obtain ⟨hSd, hSe⟩ := hSd); (try obtain ⟨hSe, hSf⟩ := hSe); go_simp; try with_reducible rfl)
                try simp only [Act.put, List.setIfInBounds_toArray, List.set_cons_zero, List.set_cons_succ]
                refine x_take (i := 1) (oi := { dst := some 62, op := Op.load 24 (Operand.tmp 61), type := 24, pos := "ref.go:159", after := #[{ on := 0, ground := Ground.data }], guard := none }) (v := ?_) rfl (by kernel_rfl) (by kernel_rfl) (by kernel_rfl) (by kernel_rfl) (by kernel_rfl) (fun _ _ _ h => h) (Or.inl ⟨rfl, ?_⟩) (by assumption) ?_
                rotate_left
                · (intro w hSw; (try dsimp only at hSw); (try obtain ⟨hSa, hSb⟩ := hSw); (try obtain ⟨hSb, hSc⟩ := hSb); (try obtain ⟨hSc, hSd⟩ := hSc); (try obtain ⟨hSd, hSe⟩ := hSd); (try obtain ⟨hSe, hSf⟩ := hSe); go_simp; try with_reducible rfl)
                try simp only [Act.put, List.setIfInBounds_toArray, List.set_cons_zero, List.set_cons_succ]
                refine x_take (i := 2) (oi := { dst := some 63, op := Op.fieldAddr 27 (Operand.tmp 2) 2, type := 0, pos := "ref.go:159", after := #[], guard := none }) (v := ?_) rfl (by kernel_rfl) (by kernel_rfl) (by kernel_rfl) (by kernel_rfl) (by kernel_rfl) (fun _ _ _ h => h) (Or.inl ⟨rfl, ?_⟩) (by assumption) ?_
                rotate_left
                · (intro w hSw; (try dsimp only at hSw); (try obtain ⟨hSa, hSb⟩ := hSw); (try obtain ⟨hSb, hSc⟩ := hSb); (try obtain ⟨hSc, hSd⟩ := hSc); (try obtain ⟨hSd, hSe⟩ := hSd); (try obtain ⟨hSe, hSf⟩ := hSe); go_simp; try with_reducible rfl)
                try simp only [Act.put, List.setIfInBounds_toArray, List.set_cons_zero, List.set_cons_succ]
                refine x_take (i := 3) (oi := { dst := some 64, op := Op.load 24 (Operand.tmp 63), type := 24, pos := "ref.go:159", after := #[{ on := 2, ground := Ground.data }], guard := none }) (v := ?_) rfl (by kernel_rfl) (by kernel_rfl) (by kernel_rfl) (by kernel_rfl) (by kernel_rfl) (fun _ _ _ h => h) (Or.inl ⟨rfl, ?_⟩) (by assumption) ?_
                rotate_left
                · (intro w hSw; (try dsimp only at hSw); (try obtain ⟨hSa, hSb⟩ := hSw); (try obtain ⟨hSb, hSc⟩ := hSb); (try obtain ⟨hSc, hSd⟩ := hSc); (try obtain ⟨hSd, hSe⟩ := hSd); (try obtain ⟨hSe, hSf⟩ := hSe); go_simp; try with_reducible rfl)
                try simp only [Act.put, List.setIfInBounds_toArray, List.set_cons_zero, List.set_cons_succ]
                refine x_take (i := 4) (oi := { dst := some 65, op := Op.move (Operand.tmp 7), type := 24, pos := "ref.go:159", after := #[], guard := none }) (v := ?_) rfl (by kernel_rfl) (by kernel_rfl) (by kernel_rfl) (by kernel_rfl) (by kernel_rfl) (fun _ _ _ h => h) (Or.inl ⟨rfl, ?_⟩) (by assumption) ?_
                rotate_left
                · (intro w hSw; (try dsimp only at hSw); (try obtain ⟨hSa, hSb⟩ := hSw); (try obtain ⟨hSb, hSc⟩ := hSb); (try obtain ⟨hSc, hSd⟩ := hSc); (try obtain ⟨hSd, hSe⟩ := hSd); (try obtain ⟨hSe, hSf⟩ := hSe); go_simp; try with_reducible rfl)
                try simp only [Act.put, List.setIfInBounds_toArray, List.set_cons_zero, List.set_cons_succ]
                refine x_take (i := 5) (oi := { dst := some 66, op := Op.move (Operand.tmp 10), type := 3, pos := "ref.go:159", after := #[], guard := none }) (v := ?_) rfl (by kernel_rfl) (by kernel_rfl) (by kernel_rfl) (by kernel_rfl) (by kernel_rfl) (fun _ _ _ h => h) (Or.inl ⟨rfl, ?_⟩) (by assumption) ?_
                rotate_left
                · (intro w hSw; (try dsimp only at hSw); (try obtain ⟨hSa, hSb⟩ := hSw); (try obtain ⟨hSb, hSc⟩ := hSb); (try obtain ⟨hSc, hSd⟩ := hSc); (try obtain ⟨hSd, hSe⟩ := hSd); (try obtain ⟨hSe, hSf⟩ := hSe); go_simp; try with_reducible rfl)
                try simp only [Act.put, List.setIfInBounds_toArray, List.set_cons_zero, List.set_cons_succ]
                refine x_take (i := 6) (oi := { dst := some 67, op := Op.indexAddr 24 (Operand.tmp 65) (Operand.tmp 66), type := 0, pos := "ref.go:159", after := #[{ on := 4, ground := Ground.data }, { on := 5, ground := Ground.data }], guard := none }) (v := ?_) rfl (by kernel_rfl) (by kernel_rfl) (by kernel_rfl) (by kernel_rfl) (by kernel_rfl) (fun _ _ _ h => h) (Or.inl ⟨rfl, ?_⟩) (by assumption) ?_
                rotate_left
                · (intro w hSw; (try dsimp only at hSw); (try obtain ⟨hSa, hSb⟩ := hSw); (try obtain ⟨hSb, hSc⟩ := hSb); (try obtain ⟨hSc, hSd⟩ := hSc); (try obtain ⟨hSd, hSe⟩ := hSd); (try obtain ⟨hSe, hSf⟩ := hSe); go_simp; try with_reducible rfl)
                try simp only [Act.put, List.setIfInBounds_toArray, List.set_cons_zero, List.set_cons_succ]
                refine x_take (i := 7) (oi := { dst := some 68, op := Op.load 3 (Operand.tmp 67), type := 3, pos := "ref.go:159", after := #[{ on := 6, ground := Ground.data }], guard := none }) (v := ?_) rfl (by kernel_rfl) (by kernel_rfl) (by kernel_rfl) (by kernel_rfl) (by kernel_rfl) (fun _ _ _ h => h) (Or.inl ⟨rfl, ?_⟩) (by assumption) ?_
                rotate_left
                · (intro w hSw; (try dsimp only at hSw); (try obtain ⟨hSa, hSb⟩ := hSw); (try obtain ⟨hSb, hSc⟩ := hSb); (try obtain ⟨hSc, hSd⟩ := hSc); (try obtain ⟨hSd, hSe⟩ := hSd); (try obtain ⟨hSe, hSf⟩ := hSe); go_simp; try with_reducible rfl)
                try simp only [Act.put, List.setIfInBounds_toArray, List.set_cons_zero, List.set_cons_succ]
                refine x_take (i := 8) (oi := { dst := some 69, op := Op.fieldAddr 27 (Operand.tmp 2) 3, type := 0, pos := "ref.go:159", after := #[], guard := none }) (v := ?_) rfl (by kernel_rfl) (by kernel_rfl) (by kernel_rfl) (by kernel_rfl) (by kernel_rfl) (fun _ _ _ h => h) (Or.inl ⟨rfl, ?_⟩) (by assumption) ?_
                rotate_left
                · (intro w hSw; (try dsimp only at hSw); (try obtain ⟨hSa, hSb⟩ := hSw); (try obtain ⟨hSb, hSc⟩ := hSb); (try obtain ⟨hSc, hSd⟩ := hSc); (try obtain ⟨hSd, hSe⟩ := hSd); (try obtain ⟨hSe, hSf⟩ := hSe); go_simp; try with_reducible rfl)
                try simp only [Act.put, List.setIfInBounds_toArray, List.set_cons_zero, List.set_cons_succ]
                refine x_take (i := 9) (oi := { dst := some 70, op := Op.load 25 (Operand.tmp 69), type := 25, pos := "ref.go:159", after := #[{ on := 8, ground := Ground.data }], guard := none }) (v := ?_) rfl (by kernel_rfl) (by kernel_rfl) (by kernel_rfl) (by kernel_rfl) (by kernel_rfl) (fun _ _ _ h => h) (Or.inl ⟨rfl, ?_⟩) (by assumption) ?_
                rotate_left
                · (intro w hSw; (try dsimp only at hSw); (try obtain ⟨hSa, hSb⟩ := hSw); (try obtain ⟨hSb, hSc⟩ := hSb); (try obtain ⟨hSc, hSd⟩ := hSc); (try obtain ⟨hSd, hSe⟩ := hSd); (try obtain ⟨hSe, hSf⟩ := hSe); go_simp; try with_reducible rfl)
                try simp only [Act.put, List.setIfInBounds_toArray, List.set_cons_zero, List.set_cons_succ]
                refine x_take (i := 10) (oi := { dst := some 71, op := Op.call { callee := Callee.builtin Builtin.len, args := #[Operand.tmp 70], argTypes := #[25] }, type := 3, pos := "ref.go:159", after := #[{ on := 9, ground := Ground.data }], guard := none }) (v := ?_) rfl (by kernel_rfl) (by kernel_rfl) (by kernel_rfl) (by kernel_rfl) (by kernel_rfl) (fun _ _ _ h => h) (Or.inl ⟨rfl, ?_⟩) (by assumption) ?_
                rotate_left
                · (intro w hSw; (try dsimp only at hSw); (try obtain ⟨hSa, hSb⟩ := hSw); (try obtain ⟨hSb, hSc⟩ := hSb); (try obtain ⟨hSc, hSd⟩ := hSc); (try obtain ⟨hSd, hSe⟩ := hSd); (try obtain ⟨hSe, hSf⟩ := hSe); go_simp; try with_reducible rfl)
                try simp only [Act.put, List.setIfInBounds_toArray, List.set_cons_zero, List.set_cons_succ]
                refine x_take (i := 11) (oi := { dst := some 72, op := Op.binOp BinOp.sub 3 (Operand.tmp 68) (Operand.tmp 71) 3, type := 3, pos := "ref.go:159", after := #[{ on := 7, ground := Ground.data }, { on := 10, ground := Ground.data }], guard := none }) (v := ?_) rfl (by kernel_rfl) (by kernel_rfl) (by kernel_rfl) (by kernel_rfl) (by kernel_rfl) (fun _ _ _ h => h) (Or.inl ⟨rfl, ?_⟩) (by assumption) ?_
                rotate_left
                · (intro w hSw; (try dsimp only at hSw); (try obtain ⟨hSa, hSb⟩ := hSw); (try obtain ⟨hSb, hSc⟩ := hSb); (try obtain ⟨hSc, hSd⟩ := hSc); (try obtain ⟨hSd, hSe⟩ := hSd); (try obtain ⟨hSe, hSf⟩ := hSe); go_simp; try with_reducible rfl)
                try simp only [Act.put, List.setIfInBounds_toArray, List.set_cons_zero, List.set_cons_succ]
                refine x_take (i := 12) (oi := { dst := some 73, op := Op.indexAddr 24 (Operand.tmp 64) (Operand.tmp 72), type := 0, pos := "ref.go:159", after := #[{ on := 3, ground := Ground.data }, { on := 11, ground := Ground.data }], guard := none }) (v := ?_) rfl (by kernel_rfl) (by kernel_rfl) (by kernel_rfl) (by kernel_rfl) (by kernel_rfl) (fun _ _ _ h => h) (Or.inl ⟨rfl, ?_⟩) (by assumption) ?_
                rotate_left
                · (intro w hSw; (try dsimp only at hSw); (try obtain ⟨hSa, hSb⟩ := hSw); (try obtain ⟨hSb, hSc⟩ := hSb); (try obtain ⟨hSc, hSd⟩ := hSc); (try obtain ⟨hSd, hSe⟩ := hSd); (try obtain ⟨hSe, hSf⟩ := hSe); go_simp; try with_reducible rfl)
                try simp only [Act.put, List.setIfInBounds_toArray, List.set_cons_zero, List.set_cons_succ]
                refine x_take (i := 13) (oi := { dst := some 74, op := Op.load 3 (Operand.tmp 73), type := 3, pos := "ref.go:159", after := #[{ on := 12, ground := Ground.data }], guard := none }) (v := ?_) rfl (by kernel_rfl) (by kernel_rfl) (by kernel_rfl) (by kernel_rfl) (by kernel_rfl) (fun _ _ _ h => h) (Or.inl ⟨rfl, ?_⟩) (by assumption) ?_
                rotate_left
                · (intro w hSw; (try dsimp only at hSw); (try obtain ⟨hSa, hSb⟩ := hSw); (try obtain ⟨hSb, hSc⟩ := hSb); (try obtain ⟨hSc, hSd⟩ := hSc); (try obtain ⟨hSd, hSe⟩ := hSd); (try obtain ⟨hSe, hSf⟩ := hSe); go_simp; try with_reducible rfl)
                try simp only [Act.put, List.setIfInBounds_toArray, List.set_cons_zero, List.set_cons_succ]
                refine x_one (i := 14) (o := { dst := some 75, op := Op.buildSlice 24 1 #[(0, Operand.tmp 74)], type := 24, pos := "ref.go:159", after := #[{ on := 13, ground := Ground.data }], guard := none }) (by kernel_rfl) rfl (fun K hK => ?_)
                (go_simp)
                refine hK.out _ _ ?_ (fun hHeld => ?_)
                · (try dsimp only); first | exact ⟨cell_drew r7, cell_drew y2, cell_drew y3, cell_drew t0, cell_drew e2⟩ | exact ⟨cell_drew (cell_drew (cell_alloc q7 _)), cell_drew (cell_drew (cell_alloc p2 _)), cell_drew (cell_drew (cell_alloc p3 _)), cell_drew (cell_drew (cell_alloc s0 _)), cell_drew (cell_drew (cell_alloc d2 _))⟩ | exact ⟨u7', u2', u3', ut', c33⟩
                clear hK K
                try simp only [Act.put, List.setIfInBounds_toArray, List.set_cons_zero, List.set_cons_succ]
                refine x_one (i := 15) (o := { dst := some 76, op := Op.call { callee := Callee.builtin Builtin.append, args := #[Operand.tmp 62, Operand.tmp 75], argTypes := #[24, 24] }, type := 24, pos := "ref.go:159", after := #[{ on := 1, ground := Ground.data }, { on := 14, ground := Ground.data }], guard := none }) (by kernel_rfl) rfl (fun K hK => ?_)
                (have MC := MM.step (kept_drew (kept_drew (kept_alloc (kept_refl wr) (.cells #[.int .i64 y] 3)))); refine step_own (g + 3) rfl (.tmp 62) (.tmp 75) 24 3 (.int .i64 0) 1 8 rfl Tryz.underlying24 info3 rfl (by omega) (by omega) vL i 1 1 ⟨wr.heap.size, 0, none⟩ (ints (lvsL t a i)) [.int .i64 y] rfl rfl rfl (news_rd (((Own.new wr 3 [.int .i64 y]).rd).kept (kept_drew (kept_drew (kept_refl _))))) (by intro u hu; rw [List.mem_singleton.1 hu]; rfl) (by have h := MC.rL; rw [lvsL_len] at h; exact h) (by have := MC.o5.lt; omega) (by omega) ?_; intro v1 w1 hr1 hg1 hn1; obtain ⟨A9, c9, rfl, hr9⟩ := row_form hr1; have o51 := MC.o5.grown hg1 (blk_ne MC.rL (by omega)); have f3 := o51.frozen 2; have c33 := o51.cell (j := 2) rfl; have o21 := MC.o2.grown hg1 (blk_ne MC.rL (by omega)); rw [HV.out] at o21; have u2' := o21.cell (j := 2) rfl; have u3' := o21.cell (j := 3) rfl; have w71 := MC.w7.kept hg1 MC.a1.symm; have ut' := kept_cell (kept_grown MC.k MC.rL (by have := MC.hg; omega) hg1) HCT.out; have u7' : w1.cell? ⟨b7, o7 + i, none⟩ = some (.int .i64 (x : Int)) := by { obtain ⟨b8, o8, e8, hd8⟩ := (row_rd w71).int (k := i) (by rw [seqI_len]; exact HIT.out); cases e8; have h := hd8 i (by rw [seqI_len]; exact HIT.out); rw [seqI_get HIT.out, ← HXX.out] at h; exact h }; have MA := MC.appL (y := y) (by rw [lvsL_len]; exact hr1) hg1 hn1)
                refine hK.out _ _ ?_ (fun hHeld => ?_)
                · (try dsimp only); first | exact ⟨cell_drew r7, cell_drew y2, cell_drew y3, cell_drew t0, cell_drew e2⟩ | exact ⟨cell_drew (cell_drew (cell_alloc q7 _)), cell_drew (cell_drew (cell_alloc p2 _)), cell_drew (cell_drew (cell_alloc p3 _)), cell_drew (cell_drew (cell_alloc s0 _)), cell_drew (cell_drew (cell_alloc d2 _))⟩ | exact ⟨u7', u2', u3', ut', c33⟩
                clear hK K
                try simp only [Act.put, List.setIfInBounds_toArray, List.set_cons_zero, List.set_cons_succ]
                refine x_take (i := 16) (oi := { dst := some 77, op := Op.fieldAddr 27 (Operand.tmp 5) 2, type := 0, pos := "ref.go:159", after := #[{ on := 0, ground := Ground.phase }, { on := 1, ground := Ground.phase }, { on := 2, ground := Ground.phase }, { on := 3, ground := Ground.phase }, { on := 4, ground := Ground.phase }, { on := 5, ground := Ground.phase }, { on := 6, ground := Ground.phase }, { on := 7, ground := Ground.phase }, { on := 8, ground := Ground.phase }, { on := 9, ground := Ground.phase }, { on := 10, ground := Ground.phase }, { on := 11, ground := Ground.phase }, { on := 12, ground := Ground.phase }, { on := 13, ground := Ground.phase }, { on := 14, ground := Ground.phase }, { on := 15, ground := Ground.phase }], guard := none }) (v := ?_) rfl (by kernel_rfl) (by kernel_rfl) (by kernel_rfl) (by kernel_rfl) (by kernel_rfl) (fun _ _ _ h => h) (Or.inl ⟨rfl, ?_⟩) (by assumption) ?_
                rotate_left
                · (intro w hSw; (try dsimp only at hSw); (try obtain ⟨hSa, hSb⟩ := hSw); (try obtain ⟨hSb, hSc⟩ := hSb); (try obtain ⟨hSc, hSd⟩ := hSc); (try obtain ⟨hSd, hSe⟩ := hSd); (try obtain ⟨hSe, hSf⟩ := hSe); go_simp; try with_reducible rfl)
                try simp only [Act.put, List.setIfInBounds_toArray, List.set_cons_zero, List.set_cons_succ]
                refine x_last (i := 17) (o := { dst := none, op := Op.store 24 (Operand.tmp 77) (Operand.tmp 76), type := 0, pos := "ref.go:159", after := #[{ on := 16, ground := Ground.data }, { on := 15, ground := Ground.data }, { on := 15, ground := Ground.chain }, { on := 0, ground := Ground.phase }, { on := 1, ground := Ground.phase }, { on := 2, ground := Ground.phase }, { on := 3, ground := Ground.phase }, { on := 4, ground := Ground.phase }, { on := 5, ground := Ground.phase }, { on := 6, ground := Ground.phase }, { on := 7, ground := Ground.phase }, { on := 8, ground := Ground.phase }, { on := 9, ground := Ground.phase }, { on := 10, ground := Ground.phase }, { on := 11, ground := Ground.phase }, { on := 12, ground := Ground.phase }, { on := 13, ground := Ground.phase }, { on := 14, ground := Ground.phase }, { on := 15, ground := Ground.phase }], guard := none }) (by kernel_rfl) rfl (by simp) (fun K hK => ?_)
                (go_simp)
                refine hK.out _ _ ?_
                clear hK K
                try simp only [Act.put, List.setIfInBounds_toArray, List.set_cons_zero, List.set_cons_succ]
                refine x_done (by kernel_rfl) ?_ _
                rw [← HFE.out] at MA
                obtain ⟨w15, hw15⟩ : ∃ x, x = w1.setCell ⟨g + 2, 2, none⟩ (.slice A9 (i + 1) c9) := ⟨_, rfl⟩
                rw [← hw15] at MA ⊢
                clear r7 y2 y3 t0 e2 q7 p2 p3 s0 d2 f3 c33 o51 o21 u2' u3' u7' ut' w71 MC hr1 hr9 hg1 hn1 hw15 MM h7 c1 c2 c3 c4 c5 lf2
                have ex1 : IntKind.i64.wrap (2 * (x : Int)) = ((2 * x : Nat) : Int) := (IntWalk.i64_in _ (by omega)).trans (by omega)
                have ex2 : IntKind.i64.wrap (((2 * x : Nat) : Int) + 1) = ((2 * x + 1 : Nat) : Int) := (IntWalk.i64_in _ (by omega)).trans (by omega)
                have ex3 : IntKind.i64.wrap (((2 * x : Nat) : Int) + 2) = ((2 * x + 2 : Nat) : Int) := (IntWalk.i64_in _ (by omega)).trans (by omega)
                obtain ⟨y1, hy1⟩ : ∃ y, y = 2 * x + 1 := ⟨_, rfl⟩
                obtain ⟨y2, hy2⟩ : ∃ y, y = 2 * x + 2 := ⟨_, rfl⟩
                rw [← hy1] at ex2
                rw [← hy2] at ex3
                obtain ⟨xx, hxx⟩ : ∃ y, y = 2 * x := ⟨_, rfl⟩
                rw [← hxx] at ex1 ex2 ex3
                have HSQ := Lib.hid (show seqI (2 * a + 1) (2 * (i + 1)) = seqI (2 * a + 1) (2 * i) ++ [(y1 : Int), (y2 : Int)] by rw [seqI_two, hy1, hy2, ← HXX.out])
                have hlen7 := seqI_len a P2
                obtain ⟨b8, o8, e8, hd8⟩ := (row_rd MA.w7).int (k := i) (by rw [seqI_len]; exact HIT.out)
                cases e8
                have r7 := hd8 i (by rw [seqI_len]; exact HIT.out)
                rw [seqI_get HIT.out, ← HXX.out] at r7
                have ki : IntKind.i64.wrap ((i : Nat) : Int) = i := IntWalk.i64_in _ (by omega)
                clear hd8 hy1 hy2 hxx hlen7
                go_upto_region 17 with fail
                refine region_x (fun w' => w'.cell? ⟨b7, o7 + i, none⟩ = some (.int .i64 (x : Int))) [] (by kernel_rfl) ?_ (fun hHeld => ?_)
                · exact cell_drew r7
                refine x_take (i := 0) (oi := { dst := some 78, op := Op.move (Operand.tmp 9), type := 24, pos := "ref.go:161", after := #[], guard := none }) (v := ?_) rfl (by kernel_rfl) (by kernel_rfl) (by kernel_rfl) (by kernel_rfl) (by kernel_rfl) (fun _ _ _ h => h) (Or.inl ⟨rfl, ?_⟩) (by assumption) ?_
                rotate_left
                · (intro w hSw; (try dsimp only at hSw); (try obtain ⟨hSa, hSb⟩ := hSw); (try obtain ⟨hSb, hSc⟩ := hSb); (try obtain ⟨hSc, hSd⟩ := hSc); (try obtain ⟨hSd, hSe⟩ := hSd); (try obtain ⟨hSe, hSf⟩ := hSe); go_simp; try with_reducible rfl)
                try simp only [Act.put, List.setIfInBounds_toArray, List.set_cons_zero, List.set_cons_succ]
                refine x_take (i := 1) (oi := { dst := some 79, op := Op.move (Operand.tmp 7), type := 24, pos := "ref.go:161", after := #[], guard := none }) (v := ?_) rfl (by kernel_rfl) (by kernel_rfl) (by kernel_rfl) (by kernel_rfl) (by kernel_rfl) (fun _ _ _ h => h) (Or.inl ⟨rfl, ?_⟩) (by assumption) ?_
                rotate_left
                · (intro w hSw; (try dsimp only at hSw); (try obtain ⟨hSa, hSb⟩ := hSw); (try obtain ⟨hSb, hSc⟩ := hSb); (try obtain ⟨hSc, hSd⟩ := hSc); (try obtain ⟨hSd, hSe⟩ := hSd); (try obtain ⟨hSe, hSf⟩ := hSe); go_simp; try with_reducible rfl)
                try simp only [Act.put, List.setIfInBounds_toArray, List.set_cons_zero, List.set_cons_succ]
                refine x_take (i := 2) (oi := { dst := some 80, op := Op.move (Operand.tmp 10), type := 3, pos := "ref.go:161", after := #[], guard := none }) (v := ?_) rfl (by kernel_rfl) (by kernel_rfl) (by kernel_rfl) (by kernel_rfl) (by kernel_rfl) (fun _ _ _ h => h) (Or.inl ⟨rfl, ?_⟩) (by assumption) ?_
                rotate_left
                · (intro w hSw; (try dsimp only at hSw); (try obtain ⟨hSa, hSb⟩ := hSw); (try obtain ⟨hSb, hSc⟩ := hSb); (try obtain ⟨hSc, hSd⟩ := hSc); (try obtain ⟨hSd, hSe⟩ := hSd); (try obtain ⟨hSe, hSf⟩ := hSe); go_simp; try with_reducible rfl)
                try simp only [Act.put, List.setIfInBounds_toArray, List.set_cons_zero, List.set_cons_succ]
                refine x_take (i := 3) (oi := { dst := some 81, op := Op.indexAddr 24 (Operand.tmp 79) (Operand.tmp 80), type := 0, pos := "ref.go:161", after := #[{ on := 1, ground := Ground.data }, { on := 2, ground := Ground.data }], guard := none }) (v := ?_) rfl (by kernel_rfl) (by kernel_rfl) (by kernel_rfl) (by kernel_rfl) (by kernel_rfl) (fun _ _ _ h => h) (Or.inl ⟨rfl, ?_⟩) (by assumption) ?_
                rotate_left
                · (intro w hSw; (try dsimp only at hSw); (try obtain ⟨hSa, hSb⟩ := hSw); (try obtain ⟨hSb, hSc⟩ := hSb); (try obtain ⟨hSc, hSd⟩ := hSc); (try obtain ⟨hSd, hSe⟩ := hSd); (try obtain ⟨hSe, hSf⟩ := hSe); go_simp; try with_reducible rfl)
                try simp only [Act.put, List.setIfInBounds_toArray, List.set_cons_zero, List.set_cons_succ]
                refine x_take (i := 4) (oi := { dst := some 82, op := Op.load 3 (Operand.tmp 81), type := 3, pos := "ref.go:161", after := #[{ on := 3, ground := Ground.data }], guard := none }) (v := ?_) rfl (by kernel_rfl) (by kernel_rfl) (by kernel_rfl) (by kernel_rfl) (by kernel_rfl) (fun _ _ _ h => h) (Or.inl ⟨rfl, ?_⟩) (by assumption) ?_
                rotate_left
                · (intro w hSw; (try dsimp only at hSw); (try obtain ⟨hSa, hSb⟩ := hSw); (try obtain ⟨hSb, hSc⟩ := hSb); (try obtain ⟨hSc, hSd⟩ := hSc); (try obtain ⟨hSd, hSe⟩ := hSd); (try obtain ⟨hSe, hSf⟩ := hSe); go_simp; try with_reducible rfl)
                try simp only [Act.put, List.setIfInBounds_toArray, List.set_cons_zero, List.set_cons_succ]
                refine x_take (i := 5) (oi := { dst := some 83, op := Op.binOp BinOp.mul 3 (Operand.const (Value.int IntKind.i64 2)) (Operand.tmp 82) 3, type := 3, pos := "ref.go:161", after := #[{ on := 4, ground := Ground.data }], guard := none }) (v := ?_) rfl (by kernel_rfl) (by kernel_rfl) (by kernel_rfl) (by kernel_rfl) (by kernel_rfl) (fun _ _ _ h => h) (Or.inl ⟨rfl, ?_⟩) (by assumption) ?_
                rotate_left
                · (intro w hSw; (try dsimp only at hSw); (try obtain ⟨hSa, hSb⟩ := hSw); (try obtain ⟨hSb, hSc⟩ := hSb); (try obtain ⟨hSc, hSd⟩ := hSc); (try obtain ⟨hSd, hSe⟩ := hSd); (try obtain ⟨hSe, hSf⟩ := hSe); go_simp; try with_reducible rfl)
                try simp only [Act.put, List.setIfInBounds_toArray, List.set_cons_zero, List.set_cons_succ]
                refine x_take (i := 6) (oi := { dst := some 84, op := Op.binOp BinOp.add 3 (Operand.tmp 83) (Operand.const (Value.int IntKind.i64 1)) 3, type := 3, pos := "ref.go:161", after := #[{ on := 5, ground := Ground.data }], guard := none }) (v := ?_) rfl (by kernel_rfl) (by kernel_rfl) (by kernel_rfl) (by kernel_rfl) (by kernel_rfl) (fun _ _ _ h => h) (Or.inl ⟨rfl, ?_⟩) (by assumption) ?_
                rotate_left
                · (intro w hSw; (try dsimp only at hSw); (try obtain ⟨hSa, hSb⟩ := hSw); (try obtain ⟨hSb, hSc⟩ := hSb); (try obtain ⟨hSc, hSd⟩ := hSc); (try obtain ⟨hSd, hSe⟩ := hSd); (try obtain ⟨hSe, hSf⟩ := hSe); go_simp; try with_reducible rfl)
                try simp only [Act.put, List.setIfInBounds_toArray, List.set_cons_zero, List.set_cons_succ]
                refine x_take (i := 7) (oi := { dst := some 85, op := Op.move (Operand.tmp 7), type := 24, pos := "ref.go:161", after := #[], guard := none }) (v := ?_) rfl (by kernel_rfl) (by kernel_rfl) (by kernel_rfl) (by kernel_rfl) (by kernel_rfl) (fun _ _ _ h => h) (Or.inl ⟨rfl, ?_⟩) (by assumption) ?_
                rotate_left
                · (intro w hSw; (try dsimp only at hSw); (try obtain ⟨hSa, hSb⟩ := hSw); (try obtain ⟨hSb, hSc⟩ := hSb); (try obtain ⟨hSc, hSd⟩ := hSc); (try obtain ⟨hSd, hSe⟩ := hSd); (try obtain ⟨hSe, hSf⟩ := hSe); go_simp; try with_reducible rfl)
                try simp only [Act.put, List.setIfInBounds_toArray, List.set_cons_zero, List.set_cons_succ]
                refine x_take (i := 8) (oi := { dst := some 86, op := Op.move (Operand.tmp 10), type := 3, pos := "ref.go:161", after := #[], guard := none }) (v := ?_) rfl (by kernel_rfl) (by kernel_rfl) (by kernel_rfl) (by kernel_rfl) (by kernel_rfl) (fun _ _ _ h => h) (Or.inl ⟨rfl, ?_⟩) (by assumption) ?_
                rotate_left
                · (intro w hSw; (try dsimp only at hSw); (try obtain ⟨hSa, hSb⟩ := hSw); (try obtain ⟨hSb, hSc⟩ := hSb); (try obtain ⟨hSc, hSd⟩ := hSc); (try obtain ⟨hSd, hSe⟩ := hSd); (try obtain ⟨hSe, hSf⟩ := hSe); go_simp; try with_reducible rfl)
                try simp only [Act.put, List.setIfInBounds_toArray, List.set_cons_zero, List.set_cons_succ]
                refine x_take (i := 9) (oi := { dst := some 87, op := Op.indexAddr 24 (Operand.tmp 85) (Operand.tmp 86), type := 0, pos := "ref.go:161", after := #[{ on := 7, ground := Ground.data }, { on := 8, ground := Ground.data }], guard := none }) (v := ?_) rfl (by kernel_rfl) (by kernel_rfl) (by kernel_rfl) (by kernel_rfl) (by kernel_rfl) (fun _ _ _ h => h) (Or.inl ⟨rfl, ?_⟩) (by assumption) ?_
                rotate_left
                · (intro w hSw; (try dsimp only at hSw); (try obtain ⟨hSa, hSb⟩ := hSw); (try obtain ⟨hSb, hSc⟩ := hSb); (try obtain ⟨hSc, hSd⟩ := hSc); (try obtain ⟨hSd, hSe⟩ := hSd); (try obtain ⟨hSe, hSf⟩ := hSe); go_simp; try with_reducible rfl)
                try simp only [Act.put, List.setIfInBounds_toArray, List.set_cons_zero, List.set_cons_succ]
                refine x_take (i := 10) (oi := { dst := some 88, op := Op.load 3 (Operand.tmp 87), type := 3, pos := "ref.go:161", after := #[{ on := 9, ground := Ground.data }], guard := none }) (v := ?_) rfl (by kernel_rfl) (by kernel_rfl) (by kernel_rfl) (by kernel_rfl) (by kernel_rfl) (fun _ _ _ h => h) (Or.inl ⟨rfl, ?_⟩) (by assumption) ?_
                rotate_left
                · (intro w hSw; (try dsimp only at hSw); (try obtain ⟨hSa, hSb⟩ := hSw); (try obtain ⟨hSb, hSc⟩ := hSb); (try obtain ⟨hSc, hSd⟩ := hSc); (try obtain ⟨hSd, hSe⟩ := hSd); (try obtain ⟨hSe, hSf⟩ := hSe); go_simp; try with_reducible rfl)
                try simp only [Act.put, List.setIfInBounds_toArray, List.set_cons_zero, List.set_cons_succ]
                refine x_take (i := 11) (oi := { dst := some 89, op := Op.binOp BinOp.mul 3 (Operand.const (Value.int IntKind.i64 2)) (Operand.tmp 88) 3, type := 3, pos := "ref.go:161", after := #[{ on := 10, ground := Ground.data }], guard := none }) (v := ?_) rfl (by kernel_rfl) (by kernel_rfl) (by kernel_rfl) (by kernel_rfl) (by kernel_rfl) (fun _ _ _ h => h) (Or.inl ⟨rfl, ?_⟩) (by assumption) ?_
                rotate_left
                · (intro w hSw; (try dsimp only at hSw); (try obtain ⟨hSa, hSb⟩ := hSw); (try obtain ⟨hSb, hSc⟩ := hSb); (try obtain ⟨hSc, hSd⟩ := hSc); (try obtain ⟨hSd, hSe⟩ := hSd); (try obtain ⟨hSe, hSf⟩ := hSe); go_simp; try with_reducible rfl)
                try simp only [Act.put, List.setIfInBounds_toArray, List.set_cons_zero, List.set_cons_succ]
                refine x_take (i := 12) (oi := { dst := some 90, op := Op.binOp BinOp.add 3 (Operand.tmp 89) (Operand.const (Value.int IntKind.i64 2)) 3, type := 3, pos := "ref.go:161", after := #[{ on := 11, ground := Ground.data }], guard := none }) (v := ?_) rfl (by kernel_rfl) (by kernel_rfl) (by kernel_rfl) (by kernel_rfl) (by kernel_rfl) (fun _ _ _ h => h) (Or.inl ⟨rfl, ?_⟩) (by assumption) ?_
                rotate_left
                · (intro w hSw; (try dsimp only at hSw); (try obtain ⟨hSa, hSb⟩ := hSw); (try obtain ⟨hSb, hSc⟩ := hSb); (try obtain ⟨hSc, hSd⟩ := hSc); (try obtain ⟨hSd, hSe⟩ := hSd); (try obtain ⟨hSe, hSf⟩ := hSe); go_simp; try with_reducible rfl)
                try simp only [Act.put, List.setIfInBounds_toArray, List.set_cons_zero, List.set_cons_succ]
                refine x_one (i := 13) (o := { dst := some 91, op := Op.buildSlice 24 2 #[(0, Operand.tmp 84), (1, Operand.tmp 90)], type := 24, pos := "ref.go:161", after := #[{ on := 6, ground := Ground.data }, { on := 12, ground := Ground.data }], guard := none }) (by kernel_rfl) rfl (fun K hK => ?_)
                (go_simp)
                refine hK.out _ _ ?_ (fun hHeld => ?_)
                · (try dsimp only); first | exact cell_drew r7 | exact cell_drew (cell_alloc r7 _) | exact r77
                clear hK K
                try simp only [Act.put, List.setIfInBounds_toArray, List.set_cons_zero, List.set_cons_succ]
                refine x_one (i := 14) (o := { dst := some 92, op := Op.call { callee := Callee.builtin Builtin.append, args := #[Operand.tmp 78, Operand.tmp 91], argTypes := #[24, 24] }, type := 24, pos := "ref.go:161", after := #[{ on := 0, ground := Ground.data }, { on := 13, ground := Ground.data }], guard := none }) (by kernel_rfl) rfl (fun K hK => ?_)
                (have MC := MA.step (kept_drew (kept_alloc (kept_refl w15) (.cells #[.int .i64 (y1 : Int), .int .i64 (y2 : Int)] 3))); refine step_own (g + 3) rfl (.tmp 78) (.tmp 91) 24 3 (.int .i64 0) 1 8 rfl Tryz.underlying24 info3 rfl (by omega) (by omega) u9 (2 * i) 2 2 ⟨w15.heap.size, 0, none⟩ (ints (seqI (2 * a + 1) (2 * i))) [.int .i64 (y1 : Int), .int .i64 (y2 : Int)] rfl rfl rfl (news_rd (((Own.new w15 3 [.int .i64 (y1 : Int), .int .i64 (y2 : Int)]).rd).kept (kept_drew (kept_refl _)))) (by intro u hu; simp at hu; rcases hu with rfl | rfl <;> rfl) (by have h := MC.w9; rw [seqI_len] at h; exact h) (by have := MC.o5.lt; omega) (by omega) ?_; intro v2 w2 hr2 hg2 hn2; have MB := MC.app9 (ys := [(y1 : Int), (y2 : Int)]) (by rw [seqI_len]; exact hr2) hg2 hn2; have r77 : w2.cell? ⟨b7, o7 + i, none⟩ = some (.int .i64 (x : Int)) := by { obtain ⟨b8, o8, e8, hd8⟩ := (row_rd MB.w7).int (k := i) (by rw [seqI_len]; exact HIT.out); cases e8; have h := hd8 i (by rw [seqI_len]; exact HIT.out); rw [seqI_get HIT.out, ← HXX.out] at h; exact h })
                refine hK.out _ _ ?_ (fun hHeld => ?_)
                · (try dsimp only); first | exact cell_drew r7 | exact cell_drew (cell_alloc r7 _) | exact r77
                clear hK K
                try simp only [Act.put, List.setIfInBounds_toArray, List.set_cons_zero, List.set_cons_succ]
                refine x_take (i := 15) (oi := { dst := some 9, op := Op.assign (Operand.tmp 92), type := 24, pos := "ref.go:161", after := #[{ on := 14, ground := Ground.data }, { on := 14, ground := Ground.chain }, { on := 0, ground := Ground.phase }, { on := 1, ground := Ground.phase }, { on := 2, ground := Ground.phase }, { on := 3, ground := Ground.phase }, { on := 4, ground := Ground.phase }, { on := 5, ground := Ground.phase }, { on := 6, ground := Ground.phase }, { on := 7, ground := Ground.phase }, { on := 8, ground := Ground.phase }, { on := 9, ground := Ground.phase }, { on := 10, ground := Ground.phase }, { on := 11, ground := Ground.phase }, { on := 12, ground := Ground.phase }, { on := 13, ground := Ground.phase }, { on := 14, ground := Ground.phase }], guard := none }) (v := ?_) rfl (by kernel_rfl) (by kernel_rfl) (by kernel_rfl) (by kernel_rfl) (by kernel_rfl) (fun _ _ _ h => h) (Or.inl ⟨rfl, ?_⟩) (by assumption) ?_
                rotate_left
                · (intro w hSw; (try dsimp only at hSw); (try obtain ⟨hSa, hSb⟩ := hSw); (try obtain ⟨hSb, hSc⟩ := hSb); (try obtain ⟨hSc, hSd⟩ := hSc); (try obtain ⟨hSd, hSe⟩ := hSd); (try obtain ⟨hSe, hSf⟩ := hSe); go_simp; try with_reducible rfl)
                try simp only [Act.put, List.setIfInBounds_toArray, List.set_cons_zero, List.set_cons_succ]
                refine x_done (by kernel_rfl) ?_ _
                rw [← HSQ.out] at MB
                clear r7 r77 MA MC
                go_wp2_with fail
                go_roundg (P2 - (i + 1))
                case rel => exact ⟨i + 1, _, v2, by have := HIT.out; omega, rfl, rfl, by go_num, MB⟩
                case measure => have := HIT.out; omega
              · obtain rfl : i = P2 := by omega
                have MT := MM.turn
                rw [HTB.out, HP2.out, seqI_next (by rw [HA2.out]), show min (2 ^ hh - 1) (2 ^ hh - 1) = min (2 ^ (hh + 1) - 1) (2 ^ hh - 1) by rw [Nat.min_self, Nat.min_eq_right]; rw [Nat.pow_succ]; omega] at MT
                have c1 : decide ((i : Int) < (i : Int)) = false := decide_eq_false (by omega)
                have c2 : decide (i < i) = false := decide_eq_false (by omega)
                clear MM h7
                go_wp2_with fail
                go_roundg (hh + 1 - (hh + 1))
                case rel => exact ⟨hh + 1, vL, vT, _, _, _, lvsL t a (2 ^ hh), by omega, rfl, rfl, by go_num, rfl, rfl, MT, Lib.hid (fun h => by omega), Lib.hid (fun _ => by rw [HA2.out])⟩
                case measure => omega
        · obtain rfl : hh = X + 1 := by omega
          have b1 : decide (((X + 1 : Nat) : Int) ≤ (X : Int)) = false := decide_eq_false (by omega)
          have b2 : decide (X + 1 ≤ X) = false := decide_eq_false (by omega)
          have b3 : decide ((X : Int) + 1 ≤ (X : Int)) = false := decide_eq_false (by omega)
          have hlv := HLE.out rfl
          have hmin : min (2 ^ (X + 1) - 1) (2 ^ X - 1) = 2 ^ X - 1 := Nat.min_eq_right (by rw [Nat.pow_succ]; omega)
          rw [hlv, hmin] at MM
          obtain ⟨AL, cL, rfl, hL⟩ := row_form MM.rL
          obtain ⟨AT, cT, rfl, hTr⟩ := row_form MM.rT
          have e1 := MM.o5.cell (j := 1) rfl; have e2 := MM.o5.cell (j := 2) rfl; have e3 := MM.o5.cell (j := 3) rfl
          have z0 := MM.o4.cell (j := 0) rfl; have z1 := MM.o4.cell (j := 1) rfl; have z2 := MM.o4.cell (j := 2) rfl; have z3 := MM.o4.cell (j := 3) rfl
          have f0 := MM.o4.frozen 0; have f1 := MM.o4.frozen 1; have f2 := MM.o4.frozen 2; have f3 := MM.o4.frozen 3
          have HMM := Lib.hid MM
          have HL5 := Lib.hid hL
          have HT5 := Lib.hid hTr
          clear MM hL hTr hlv hmin
          go_wp2_with fail
          obtain ⟨W2, hW2⟩ : ∃ W2, W2 = (((wr.setCell ⟨g + 1, 0, none⟩ (.int .i64 (X : Int))).setCell ⟨g + 1, 1, none⟩ (.int .i64 b)).setCell ⟨g + 1, 2, none⟩ (.slice AL (lvsL t (2 ^ X * (n + 1) - 1) (2 ^ X)).length cL)).setCell ⟨g + 1, 3, none⟩ (.slice AT (tbsL F n (2 ^ X - 1)).length cT) := ⟨_, rfl⟩
          have w5 : Own W2 (g + 1) 27 [.int .i64 (X : Int), .int .i64 b, .slice AL (lvsL t (2 ^ X * (n + 1) - 1) (2 ^ X)).length cL, .slice AT (tbsL F n (2 ^ X - 1)).length cT] := by rw [hW2]; exact own_set4 HMM.out.o4 (.int .i64 (X : Int)) (.int .i64 b) (.slice AL (lvsL t (2 ^ X * (n + 1) - 1) (2 ^ X)).length cL) (.slice AT (tbsL F n (2 ^ X - 1)).length cT)
          have wL : W2.ownsRow (g + 3) 3 1 (.slice AL (lvsL t (2 ^ X * (n + 1) - 1) (2 ^ X)).length cL) (lvsL t (2 ^ X * (n + 1) - 1) (2 ^ X)).length (ints (lvsL t (2 ^ X * (n + 1) - 1) (2 ^ X))) := by rw [hW2]; exact row_set4 HL5.out (show g + 1 < g + 3 by omega) (.int .i64 (X : Int)) (.int .i64 b) (.slice AL (lvsL t (2 ^ X * (n + 1) - 1) (2 ^ X)).length cL) (.slice AT (tbsL F n (2 ^ X - 1)).length cT)
          have wT : W2.ownsRow (g + 3) 24 1 (.slice AT (tbsL F n (2 ^ X - 1)).length cT) (tbsL F n (2 ^ X - 1)).length (tbsL F n (2 ^ X - 1)) := by rw [hW2]; exact row_set4 HT5.out (show g + 1 < g + 3 by omega) (.int .i64 (X : Int)) (.int .i64 b) (.slice AL (lvsL t (2 ^ X * (n + 1) - 1) (2 ^ X)).length cL) (.slice AT (tbsL F n (2 ^ X - 1)).length cT)
          have KF : Kept w W2 := by rw [hW2]; exact kept_set4 HMM.out.k (show w.heap.size ≤ g + 1 by have := HMM.out.hg; omega) (.int .i64 (X : Int)) (.int .i64 b) (.slice AL (lvsL t (2 ^ X * (n + 1) - 1) (2 ^ X)).length cL) (.slice AT (tbsL F n (2 ^ X - 1)).length cT)
          rw [← hW2]
          have p0 := w5.cell (j := 0) rfl; have p1 := w5.cell (j := 1) rfl; have p2 := w5.cell (j := 2) rfl; have p3 := w5.cell (j := 3) rfl
          refine bodyPost_ret (v := .agg #[.int .i64 (X : Int), .int .i64 b, .slice AL (lvsL t (2 ^ X * (n + 1) - 1) (2 ^ X)).length cL, .slice AT (tbsL F n (2 ^ X - 1)).length cT]) (by simp [results, Tryz.results19, go_sem, p0, p1, p2, p3]) rfl ⟨belowT t n X, AL, cL, AT, cT, ?_, HO.out.good, HO.out.root, row_rd wL, fun j hj => ?_, KF⟩
          · rw [HBB.out]
            show Ending.returned _ = Ending.returned (.agg #[.int .i64 (X : Int), .int .i64 t.b, .slice AL (lvsL t (2 ^ X * (n + 1) - 1) (2 ^ X)).length cL, .slice AT ((List.range (2 ^ X - 1)).map fun j => t.tb.getD (mapN n j) []).length cT])
            rw [tbsL_len, List.length_map, List.length_range]
          · have hj' : j < 2 ^ X - 1 := by
              have h1 : ((List.range (2 ^ X - 1)).map fun j => t.tb.getD (mapN n j) []).length = 2 ^ X - 1 := by rw [List.length_map, List.length_range]
              have h2 : j < ((List.range (2 ^ X - 1)).map fun j => t.tb.getD (mapN n j) []).length := hj
              omega
            have hin := HO.out.inner (j := j) (by omega)
            obtain ⟨bT, oT, A', c', eT, _, hFx, hR, hlen⟩ := HF.out (mapN n j) hin
            have hg : (tbsL F n (2 ^ X - 1))[j]? = some (F (mapN n j)) := by simp [tbsL, hj']
            obtain ⟨b3, o3, e3, hc3⟩ := (row_rd wT).at_ (by intro h0; rw [h0] at hg; simp at hg)
            have hget : (belowT t n X).tb.getD j [] = t.tb.getD (mapN n j) [] := by
              show ((List.range (2 ^ X - 1)).map fun j => t.tb.getD (mapN n j) []).getD j [] = _
              rw [List.getD_eq_getElem?_getD, List.getElem?_map, List.getElem?_range hj']
              rfl
            refine ⟨b3, o3, A', c', e3, ?_, ?_, ?_⟩
            · rw [hget, ← hFx]; exact hc3 j _ hg
            · rw [hget]; exact hR.kept KF
            · rw [hget]; exact hlen
end Go.Proofs.YtikfeemmjfoffaaGreatDoor
