/- Polynomials: the multiple of a polynomial, the program's and the reference's. -/
import Derived.Test.YtnjmpjdampdmmaaGreatDoorC29
set_option linter.unusedVariables false
set_option linter.unusedSimpArgs false
namespace Go.Proofs.YtnjmpjdampdmmaaGreatDoor
open Go.RowKit Go.Shelf Go.Maps

/-- The multiple as the program makes it: products other than 0. -/
def scT (P M x : Int) (p : List Tm) : List Tm := (p.map fun t => (⟨mulF P M x t.c, t.e⟩ : Tm)).filter fun t => decide (0 < t.c)
/-- The multiple as the reference makes it. -/
def rsT (P M x : Int) (p : List Tm) : List Tm := if x = 0 then [] else p.map fun t => (⟨mulF P M x t.c, t.e⟩ : Tm)
theorem scT_take {P M x : Int} {p : List Tm} {i : Nat} (h : i < p.length) : scT P M x (p.take (i + 1)) = scT P M x (p.take i) ++ if 0 < mulF P M x (tmv p i).c then [⟨mulF P M x (tmv p i).c, (tmv p i).e⟩] else [] := by
  rw [take_tm h]
  simp only [scT, List.map_append, List.filter_append, List.map_cons, List.map_nil]
  split <;> simp_all
def RowPost (out : List Tm) (w : World) (e : Ending) (w' : World) : Prop := ∃ (A' : Option Addr) (c' : Nat), e = .returned (.slice A' out.length c') ∧ RP w' A' out ∧ Kept w w'
theorem scT_len (P M x : Int) (p : List Tm) : (scT P M x p).length ≤ p.length := by
  unfold scT
  refine Nat.le_trans (List.length_filter_le _ _) (by simp)
set_option maxRecDepth 100000 in
set_option maxHeartbeats 1000000 in
theorem scale32_any (P M x : Int) (n : Nat) (p : List Tm) (A : Option Addr) (c : Nat) (w : World) (ok : okF P M = true) (hP : RP w A p) (hx : inF P M x) (hn : n ≤ 80) (tp : TmsOk P M n p) (hp : p.length ≤ 20000) :
    Calls Tryz.prog 32 #[fV P M, .int .i64 x, .slice A p.length c] w (RowPost (scT P M x p) w) := by
  have C51 := Lib.hid fun w' (b : Int) (h2 : inF P M b) => mul68_any P M x b w' ok hx h2
  unfold fV at *
  have K0 := kept_alloc (kept_refl w) (.cells #[.int .i64 P, .int .i64 M] 23)
  have o3 := Own.new w 23 [.int .i64 P, .int .i64 M]
  have HP := Lib.hid hP
  have TP := Lib.hid tp
  clear hP ok tp hx
  go_enter Tryz.func32, Tryz.ntmps32
  go_upto_region 1 with fail
  obtain ⟨w0, hw0⟩ : ∃ w0, w0 = w.alloc (.cells #[.int .i64 P, .int .i64 M] 23) := ⟨_, rfl⟩
  rw [← hw0] at K0 o3 ⊢
  clear hw0
  go_wp2_with fail
  go_loopg [7, 9, 10, 11, 14] p.length (fun G s7 s9 s10 s11 s14 wr => ∃ (i : Nat) (S : List Te) (v9 v10 v11 : Value), i ≤ p.length ∧ G = p.length - i ∧ s9 = v9 ∧ s10 = v10 ∧ s11 = v11 ∧ s14 = .int .i64 i ∧ wr.ownsRow w0.heap.size 64 2 s7 S.length (teCells S) ∧ S.length ≤ i ∧ Hid (S.map Te.t = scT P M x (p.take i)) ∧ Hid (∀ z ∈ S, okTe z wr) ∧ Kept w0 wr)
  case atStart => exact ⟨0, [], _, _, _, by omega, rfl, rfl, rfl, rfl, rfl, World.ownsRow_nil _ _ _ _, by simp, Lib.hid (by simp [scT]), Lib.hid (by simp), kept_refl _⟩
  case round =>
    obtain ⟨i, S, v9, v10, v11, hi, rfl, rfl, rfl, rfl, rfl, h7, hS, HM, HK, K1⟩ := hrel
    by_cases hit : i < p.length
    · obtain ⟨ba, off, E, ce, rfl, h0, h1, hE, hlE⟩ := (HP.out.kept K0) i hit
      replace h0 := kept_cell K1 h0
      replace h1 := kept_cell K1 h1
      obtain ⟨y, hy⟩ : ∃ y, y = (tmv p i).c := ⟨_, rfl⟩
      obtain ⟨el, hel⟩ : ∃ el, el = (tmv p i).e := ⟨_, rfl⟩
      have TK := Lib.hid (TP.out i hit)
      have HTM := Lib.hid (show tmv p i = ⟨y, el⟩ by rw [hy, hel])
      rw [← hy, ← hel] at TK
      rw [← hy] at h0
      rw [← hel] at h1 hE hlE
      have HE := Lib.hid hE
      have hl80 : el.length ≤ 80 := by have := TK.out.1; omega
      have CM := Lib.hid fun w' => C51.out w' y ⟨by have := TK.out.2.1; omega, TK.out.2.2.1⟩
      obtain ⟨m, hm⟩ : ∃ m, m = mulF P M x y := ⟨_, rfl⟩
      rw [← hm] at CM
      have HST := Lib.hid (scT_take (P := P) (M := M) (x := x) hit)
      rw [HTM.out] at HST
      have HMM := Lib.hid hm
      clear hy hel hE hm
      go_upto_region 5 with fail
      obtain ⟨W1, hW1⟩ : ∃ W1, W1 = wr.alloc (.cells #[.int .i64 y, .slice E el.length ce] 64) := ⟨_, rfl⟩
      rw [← hW1]
      have o9 : Own W1 wr.heap.size 64 [.int .i64 y, .slice E el.length ce] := by rw [hW1]; exact Own.new wr 64 _
      have KW1 : Kept wr W1 := by rw [hW1]; exact kept_alloc (kept_refl wr) _
      have y0 := (o3.kept (kept_trans K1 KW1)).cell (j := 0) rfl
      have y1 := (o3.kept (kept_trans K1 KW1)).cell (j := 1) rfl
      have z0 := o9.cell (j := 0) rfl
      have C45 := Lib.hid fun w' (k : Kept W1 w') => clone45_any el E ce w' (((HE.out.kept K1).kept KW1).kept k) (by omega)
      have hB5 : w0.heap.size ≤ wr.heap.size := K1.size
      clear h0 h1 hW1
      by_cases c1 : 0 < m
      · have dd : decide (0 < m) = true := decide_eq_true c1
        have HC1 := Lib.hid c1
        clear c1
        go_upto_region 7 with (go_at_call 51; ((with_reducible refine (CM.out _).mono ?_); rintro e w5 ⟨rfl, k5⟩))
        have z1 := (o9.kept k5).cell (j := 1) rfl
        clear y0 y1 z0
        go_wp2_with (first
          | (go_at_call 45; ((with_reducible refine (C45.out _ k5).mono ?_); rintro e w6 ⟨A6, c6, rfl, hrow6, k6⟩; have KR := kept_trans KW1 (kept_trans k5 k6); have h76 := row_kept h7 KR; have hB6 := KR.size))
          | (at_builtin; go_loud (refine app_law w0.heap.size rfl (.tmp 28) (.tmp 34) 25 64 (.agg #[.int .i64 0, .slice none 0 0]) 2 32 rfl Tryz.underlying25 info67 rfl (by omega) (by omega) u7 S.length 1 (teCells S) [.int .i64 m, .slice A6 el.length c6] rfl rfl rfl (one_te _ _ _ _) h76 (by omega) (by omega) ?_; intro v7 w7 hr7 hg7 _)))
        go_roundg (p.length - (i + 1))
        case rel => exact ⟨i + 1, S ++ [⟨⟨m, el⟩, A6, c6⟩], _, _, _, by omega, rfl, rfl, rfl, rfl, by go_num, by (rw [teCells_snoc, List.length_append]; exact hr7), by (rw [List.length_append]; simp; omega), Lib.hid (by
            rw [HST.out, if_pos (by rw [← HMM.out]; exact HC1.out), List.map_append, HM.out, ← HMM.out]
            rfl), Lib.hid (fun z hz => by
            rcases List.mem_append.1 hz with hz | hz
            · exact ((HK.out z hz).kept KR).grow h76 (by decide) hg7
            · obtain rfl := List.mem_singleton.1 hz
              have h5 : okTe ⟨⟨m, el⟩, A6, c6⟩ w6 := ⟨row_base hrow6 (Nat.zero_le _), by show el.length ≤ 1000; omega⟩
              exact h5.grow h76 (by decide) hg7), kept_grown (kept_trans K1 KR) h76 (Nat.le_refl _) hg7⟩
        case measure => omega
      · have dd : decide (0 < m) = false := decide_eq_false c1
        have HC1 := Lib.hid c1
        clear c1
        go_wp2_with (go_at_call 51; ((with_reducible refine (CM.out _).mono ?_); rintro e w5 ⟨rfl, k5⟩))
        have KR := kept_trans KW1 k5
        go_roundg (p.length - (i + 1))
        case rel => exact ⟨i + 1, S, _, _, _, by omega, rfl, rfl, rfl, rfl, by go_num, row_kept h7 KR, by omega, Lib.hid (by
            rw [HST.out, if_neg (by rw [← HMM.out]; exact Int.not_lt.2 HC1.out), HM.out, List.append_nil]), Lib.hid (fun z hz => (HK.out z hz).kept KR), kept_trans K1 KR⟩
        case measure => omega
    · obtain rfl : i = p.length := by omega
      obtain ⟨A7, c7, rfl⟩ := row_val h7
      have HE := Lib.hid (show S.map Te.t = scT P M x p by rw [HM.out, List.take_length])
      have hrp := rp_of_row h7 (fun z hz => row_rd (HK.out z hz).1) (fun z hz => (HK.out z hz).2)
      go_wp2_with fail
      go_ret
      refine ⟨A7, c7, ?_, ?_, kept_trans K0 K1⟩
      · rw [← HE.out, List.length_map]; rfl
      · rw [← HE.out]; exact hrp

set_option maxRecDepth 100000 in
set_option maxHeartbeats 1000000 in
theorem rscale14_any (P M x : Int) (n : Nat) (p : List Tm) (A : Option Addr) (c : Nat) (w : World) (ok : okF P M = true) (hP : RP w A p) (hx : inF P M x) (hn : n ≤ 80) (tp : TmsOk P M n p) (hp : p.length ≤ 20000) :
    Calls Tryz.prog 14 #[kV P M, .int .i64 x, .slice A p.length c] w (RowPost (rsT P M x p) w) := by
  have C36 := Lib.hid fun w' (b : Int) (h2 : inF P M b) => rmul65_any P M x b w' ok hx h2
  unfold kV at *
  have K0 := kept_alloc (kept_refl w) (.cells #[.int .i64 P, .int .i64 M, .int .i64 (ordF P M), .int .i64 (kitM M)] 37)
  have o2 := Own.new w 37 [.int .i64 P, .int .i64 M, .int .i64 (ordF P M), .int .i64 (kitM M)]
  have HP := Lib.hid hP
  have TP := Lib.hid tp
  obtain ⟨q, hqq⟩ : ∃ q, q = ordF P M := ⟨_, rfl⟩
  obtain ⟨km, hkm⟩ : ∃ km, km = kitM M := ⟨_, rfl⟩
  rw [← hqq, ← hkm] at C36 K0 o2 ⊢
  clear hP ok tp hx hqq hkm
  go_enter Tryz.func14, Tryz.ntmps14
  obtain ⟨w0, hw0⟩ : ∃ w0, w0 = w.alloc (.cells #[.int .i64 P, .int .i64 M, .int .i64 q, .int .i64 km] 37) := ⟨_, rfl⟩
  go_upto_region 1 with fail
  rw [← hw0] at K0 o2 ⊢
  clear hw0
  go_wp2_with fail
  by_cases hz : x = 0
  · have e0 : (x != 0) = false := by simpa using hz
    have HR := Lib.hid (show rsT P M x p = [] by simp [rsT, hz])
    clear hz
    go_loopg [7, 8] 0 (fun G s7 s8 wr => G = 0 ∧ s7 = .slice none 0 0 ∧ s8 = .int .i64 0 ∧ Kept w0 wr)
    case atStart => exact ⟨rfl, rfl, rfl, kept_refl _⟩
    case round =>
      obtain ⟨rfl, rfl, rfl, K1⟩ := hrel
      by_cases h0 : 0 < p.length
      · have d1 : decide ((0 : Int) < (p.length : Int)) = true := decide_eq_true (by omega)
        have d2 : decide (0 < p.length) = true := decide_eq_true (by omega)
        go_wp2_with fail
        go_ret
        rw [HR.out]
        exact ⟨none, 0, rfl, fun j hj => by simp at hj, kept_trans K0 K1⟩
      · have d1 : decide ((0 : Int) < (p.length : Int)) = false := decide_eq_false (by omega)
        have d2 : decide (0 < p.length) = false := decide_eq_false (by omega)
        go_wp2_with fail
        go_ret
        rw [HR.out]
        exact ⟨none, 0, rfl, fun j hj => by simp at hj, kept_trans K0 K1⟩
  · have e0 : (x != 0) = true := by simpa using hz
    have HR := Lib.hid (show rsT P M x p = p.map fun t => (⟨mulF P M x t.c, t.e⟩ : Tm) by simp [rsT, hz])
    clear hz
    go_loopg [7, 8] p.length (fun G s7 s8 wr => ∃ (i : Nat) (S : List Te), i ≤ p.length ∧ G = p.length - i ∧ s8 = .int .i64 i ∧ wr.ownsRow w0.heap.size 64 2 s7 i (teCells S) ∧ Hid (S.length = i ∧ S.map Te.t = (p.take i).map fun t => (⟨mulF P M x t.c, t.e⟩ : Tm)) ∧ Hid (∀ z ∈ S, Rd w0 z.E (ints z.t.e) ∧ z.t.e.length ≤ 1000) ∧ Kept w0 wr)
    case atStart => exact ⟨0, [], by omega, rfl, rfl, World.ownsRow_nil _ _ _ _, Lib.hid (by simp), Lib.hid (by simp), kept_refl _⟩
    case round =>
      obtain ⟨i, S, hi, rfl, rfl, h7, HS, HK, K1⟩ := hrel
      by_cases hit : i < p.length
      · have d1 : decide ((i : Int) < (p.length : Int)) = true := decide_eq_true (by omega)
        have d2 : decide (i < p.length) = true := decide_eq_true (by omega)
        obtain ⟨ba, off, E, ce, rfl, h0, h1, hE, hlE⟩ := (HP.out.kept K0) i hit
        obtain ⟨y, hy⟩ : ∃ y, y = (tmv p i).c := ⟨_, rfl⟩
        obtain ⟨el, hel⟩ : ∃ el, el = (tmv p i).e := ⟨_, rfl⟩
        have TK := Lib.hid (TP.out i hit)
        have HTM := Lib.hid (show tmv p i = ⟨y, el⟩ by rw [hy, hel])
        rw [← hy, ← hel] at TK
        rw [← hy] at h0
        rw [← hel] at h1 hE hlE
        have HE := Lib.hid hE
        have hl80 : el.length ≤ 80 := by have := TK.out.1; omega
        have CM := Lib.hid fun w' => C36.out w' y ⟨by have := TK.out.2.1; omega, TK.out.2.2.1⟩
        obtain ⟨m, hm⟩ : ∃ m, m = mulF P M x y := ⟨_, rfl⟩
        rw [← hm] at CM
        have HMM := Lib.hid hm
        have q0 := o2.cell (j := 0) rfl
        have q1 := o2.cell (j := 1) rfl
        have q2 := o2.cell (j := 2) rfl
        have q3 := o2.cell (j := 3) rfl
        have hB5 : w0.heap.size ≤ wr.heap.size := K1.size
        clear hy hel hE hm
        go_upto_region 5 with fail
        refine region_x (fun w' => Kept w0 w') [] (by kernel_rfl) (kept_drew (K1)) (fun hHeld => ?_)
        refine x_take (i := 0) (oi := { dst := some 19, op := Op.move (Operand.tmp 7), type := 25, pos := "ref.go:116", after := #[], guard := none }) (v := ?_) rfl (by kernel_rfl) (by kernel_rfl) (by kernel_rfl) (by kernel_rfl) (by kernel_rfl) (fun _ _ _ h => h) (Or.inl ⟨rfl, ?_⟩) (by assumption) ?_
        rotate_left
        · (intro w' hSw; replace q0 := kept_cell hSw q0; replace q1 := kept_cell hSw q1; replace q2 := kept_cell hSw q2; replace q3 := kept_cell hSw q3; replace h0 := kept_cell hSw h0; replace h1 := kept_cell hSw h1; go_simp; try with_reducible rfl)
        try simp only [Act.put, List.setIfInBounds_toArray, List.set_cons_zero, List.set_cons_succ]
        refine x_take (i := 1) (oi := { dst := some 20, op := Op.load 37 (Operand.tmp 3), type := 37, pos := "ref.go:116", after := #[], guard := none }) (v := ?_) rfl (by kernel_rfl) (by kernel_rfl) (by kernel_rfl) (by kernel_rfl) (by kernel_rfl) (fun _ _ _ h => h) (Or.inl ⟨rfl, ?_⟩) (by assumption) ?_
        rotate_left
        · (intro w' hSw; replace q0 := kept_cell hSw q0; replace q1 := kept_cell hSw q1; replace q2 := kept_cell hSw q2; replace q3 := kept_cell hSw q3; replace h0 := kept_cell hSw h0; replace h1 := kept_cell hSw h1; go_simp; try with_reducible rfl)
        try simp only [Act.put, List.setIfInBounds_toArray, List.set_cons_zero, List.set_cons_succ]
        refine x_take (i := 2) (oi := { dst := some 21, op := Op.move (Operand.tmp 1), type := 3, pos := "ref.go:116", after := #[], guard := none }) (v := ?_) rfl (by kernel_rfl) (by kernel_rfl) (by kernel_rfl) (by kernel_rfl) (by kernel_rfl) (fun _ _ _ h => h) (Or.inl ⟨rfl, ?_⟩) (by assumption) ?_
        rotate_left
        · (intro w' hSw; replace q0 := kept_cell hSw q0; replace q1 := kept_cell hSw q1; replace q2 := kept_cell hSw q2; replace q3 := kept_cell hSw q3; replace h0 := kept_cell hSw h0; replace h1 := kept_cell hSw h1; go_simp; try with_reducible rfl)
        try simp only [Act.put, List.setIfInBounds_toArray, List.set_cons_zero, List.set_cons_succ]
        refine x_take (i := 3) (oi := { dst := some 22, op := Op.move (Operand.tmp 2), type := 25, pos := "ref.go:116", after := #[], guard := none }) (v := ?_) rfl (by kernel_rfl) (by kernel_rfl) (by kernel_rfl) (by kernel_rfl) (by kernel_rfl) (fun _ _ _ h => h) (Or.inl ⟨rfl, ?_⟩) (by assumption) ?_
        rotate_left
        · (intro w' hSw; replace q0 := kept_cell hSw q0; replace q1 := kept_cell hSw q1; replace q2 := kept_cell hSw q2; replace q3 := kept_cell hSw q3; replace h0 := kept_cell hSw h0; replace h1 := kept_cell hSw h1; go_simp; try with_reducible rfl)
        try simp only [Act.put, List.setIfInBounds_toArray, List.set_cons_zero, List.set_cons_succ]
        refine x_take (i := 4) (oi := { dst := some 23, op := Op.move (Operand.tmp 8), type := 3, pos := "ref.go:116", after := #[], guard := none }) (v := ?_) rfl (by kernel_rfl) (by kernel_rfl) (by kernel_rfl) (by kernel_rfl) (by kernel_rfl) (fun _ _ _ h => h) (Or.inl ⟨rfl, ?_⟩) (by assumption) ?_
        rotate_left
        · (intro w' hSw; replace q0 := kept_cell hSw q0; replace q1 := kept_cell hSw q1; replace q2 := kept_cell hSw q2; replace q3 := kept_cell hSw q3; replace h0 := kept_cell hSw h0; replace h1 := kept_cell hSw h1; go_simp; try with_reducible rfl)
        try simp only [Act.put, List.setIfInBounds_toArray, List.set_cons_zero, List.set_cons_succ]
        refine x_take (i := 5) (oi := { dst := some 24, op := Op.indexAddr 25 (Operand.tmp 22) (Operand.tmp 23), type := 0, pos := "ref.go:116", after := #[{ on := 3, ground := Ground.data }, { on := 4, ground := Ground.data }], guard := none }) (v := ?_) rfl (by kernel_rfl) (by kernel_rfl) (by kernel_rfl) (by kernel_rfl) (by kernel_rfl) (fun _ _ _ h => h) (Or.inl ⟨rfl, ?_⟩) (by assumption) ?_
        rotate_left
        · (intro w' hSw; replace q0 := kept_cell hSw q0; replace q1 := kept_cell hSw q1; replace q2 := kept_cell hSw q2; replace q3 := kept_cell hSw q3; replace h0 := kept_cell hSw h0; replace h1 := kept_cell hSw h1; go_simp; try with_reducible rfl)
        try simp only [Act.put, List.setIfInBounds_toArray, List.set_cons_zero, List.set_cons_succ]
        refine x_take (i := 6) (oi := { dst := some 25, op := Op.fieldAddr 64 (Operand.tmp 24) 0, type := 0, pos := "ref.go:116", after := #[{ on := 5, ground := Ground.data }], guard := none }) (v := ?_) rfl (by kernel_rfl) (by kernel_rfl) (by kernel_rfl) (by kernel_rfl) (by kernel_rfl) (fun _ _ _ h => h) (Or.inl ⟨rfl, ?_⟩) (by assumption) ?_
        rotate_left
        · (intro w' hSw; replace q0 := kept_cell hSw q0; replace q1 := kept_cell hSw q1; replace q2 := kept_cell hSw q2; replace q3 := kept_cell hSw q3; replace h0 := kept_cell hSw h0; replace h1 := kept_cell hSw h1; go_simp; try with_reducible rfl)
        try simp only [Act.put, List.setIfInBounds_toArray, List.set_cons_zero, List.set_cons_succ]
        refine x_take (i := 7) (oi := { dst := some 26, op := Op.load 3 (Operand.tmp 25), type := 3, pos := "ref.go:116", after := #[{ on := 6, ground := Ground.data }], guard := none }) (v := ?_) rfl (by kernel_rfl) (by kernel_rfl) (by kernel_rfl) (by kernel_rfl) (by kernel_rfl) (fun _ _ _ h => h) (Or.inl ⟨rfl, ?_⟩) (by assumption) ?_
        rotate_left
        · (intro w' hSw; replace q0 := kept_cell hSw q0; replace q1 := kept_cell hSw q1; replace q2 := kept_cell hSw q2; replace q3 := kept_cell hSw q3; replace h0 := kept_cell hSw h0; replace h1 := kept_cell hSw h1; go_simp; try with_reducible rfl)
        try simp only [Act.put, List.setIfInBounds_toArray, List.set_cons_zero, List.set_cons_succ]
        refine x_take (i := 9) (oi := { dst := some 28, op := Op.move (Operand.tmp 2), type := 25, pos := "ref.go:116", after := #[], guard := none }) (v := ?_) rfl (by kernel_rfl) (by kernel_rfl) (by kernel_rfl) (by kernel_rfl) (by kernel_rfl) (fun _ _ _ h => h) (Or.inl ⟨rfl, ?_⟩) (by assumption) ?_
        rotate_left
        · (intro w' hSw; replace q0 := kept_cell hSw q0; replace q1 := kept_cell hSw q1; replace q2 := kept_cell hSw q2; replace q3 := kept_cell hSw q3; replace h0 := kept_cell hSw h0; replace h1 := kept_cell hSw h1; go_simp; try with_reducible rfl)
        try simp only [Act.put, List.setIfInBounds_toArray, List.set_cons_zero, List.set_cons_succ]
        refine x_take (i := 10) (oi := { dst := some 29, op := Op.move (Operand.tmp 8), type := 3, pos := "ref.go:116", after := #[], guard := none }) (v := ?_) rfl (by kernel_rfl) (by kernel_rfl) (by kernel_rfl) (by kernel_rfl) (by kernel_rfl) (fun _ _ _ h => h) (Or.inl ⟨rfl, ?_⟩) (by assumption) ?_
        rotate_left
        · (intro w' hSw; replace q0 := kept_cell hSw q0; replace q1 := kept_cell hSw q1; replace q2 := kept_cell hSw q2; replace q3 := kept_cell hSw q3; replace h0 := kept_cell hSw h0; replace h1 := kept_cell hSw h1; go_simp; try with_reducible rfl)
        try simp only [Act.put, List.setIfInBounds_toArray, List.set_cons_zero, List.set_cons_succ]
        refine x_take (i := 11) (oi := { dst := some 30, op := Op.indexAddr 25 (Operand.tmp 28) (Operand.tmp 29), type := 0, pos := "ref.go:116", after := #[{ on := 9, ground := Ground.data }, { on := 10, ground := Ground.data }], guard := none }) (v := ?_) rfl (by kernel_rfl) (by kernel_rfl) (by kernel_rfl) (by kernel_rfl) (by kernel_rfl) (fun _ _ _ h => h) (Or.inl ⟨rfl, ?_⟩) (by assumption) ?_
        rotate_left
        · (intro w' hSw; replace q0 := kept_cell hSw q0; replace q1 := kept_cell hSw q1; replace q2 := kept_cell hSw q2; replace q3 := kept_cell hSw q3; replace h0 := kept_cell hSw h0; replace h1 := kept_cell hSw h1; go_simp; try with_reducible rfl)
        try simp only [Act.put, List.setIfInBounds_toArray, List.set_cons_zero, List.set_cons_succ]
        refine x_take (i := 12) (oi := { dst := some 31, op := Op.fieldAddr 64 (Operand.tmp 30) 1, type := 0, pos := "ref.go:116", after := #[{ on := 11, ground := Ground.data }], guard := none }) (v := ?_) rfl (by kernel_rfl) (by kernel_rfl) (by kernel_rfl) (by kernel_rfl) (by kernel_rfl) (fun _ _ _ h => h) (Or.inl ⟨rfl, ?_⟩) (by assumption) ?_
        rotate_left
        · (intro w' hSw; replace q0 := kept_cell hSw q0; replace q1 := kept_cell hSw q1; replace q2 := kept_cell hSw q2; replace q3 := kept_cell hSw q3; replace h0 := kept_cell hSw h0; replace h1 := kept_cell hSw h1; go_simp; try with_reducible rfl)
        try simp only [Act.put, List.setIfInBounds_toArray, List.set_cons_zero, List.set_cons_succ]
        refine x_take (i := 13) (oi := { dst := some 32, op := Op.load 53 (Operand.tmp 31), type := 53, pos := "ref.go:116", after := #[{ on := 12, ground := Ground.data }], guard := none }) (v := ?_) rfl (by kernel_rfl) (by kernel_rfl) (by kernel_rfl) (by kernel_rfl) (by kernel_rfl) (fun _ _ _ h => h) (Or.inl ⟨rfl, ?_⟩) (by assumption) ?_
        rotate_left
        · (intro w' hSw; replace q0 := kept_cell hSw q0; replace q1 := kept_cell hSw q1; replace q2 := kept_cell hSw q2; replace q3 := kept_cell hSw q3; replace h0 := kept_cell hSw h0; replace h1 := kept_cell hSw h1; go_simp; try with_reducible rfl)
        try simp only [Act.put, List.setIfInBounds_toArray, List.set_cons_zero, List.set_cons_succ]
        refine x_one (i := 8) (o := { dst := some 27, op := Op.call { callee := Callee.value (Operand.func 36), args := #[Operand.tmp 20, Operand.tmp 21, Operand.tmp 26], argTypes := #[37, 3, 3] }, type := 3, pos := "ref.go:116", after := #[{ on := 1, ground := Ground.data }, { on := 2, ground := Ground.data }, { on := 7, ground := Ground.data }], guard := none }) (by kernel_rfl) rfl (fun K hK => ?_)
        (go_simp; go_at_call 36; (with_reducible refine (CM.out _).mono ?_); rintro e w5 ⟨rfl, k5⟩; have KR := kept_trans (kept_drew (kept_refl wr)) k5; have G5 := kept_trans K1 KR; try dsimp only)
        refine hK.out _ _ ?_ (fun hHeld => ?_)
        · (try dsimp only); repeat (first | assumption | exact kept_refl _ | refine kept_drew ?_ | refine kept_alloc ?_ _ | refine kept_set ?_ (by omega) _)
        clear hK K
        try simp only [Act.put, List.setIfInBounds_toArray, List.set_cons_zero, List.set_cons_succ]
        refine x_take (i := 14) (oi := { dst := some 33, op := Op.build 64 #[(0, Operand.tmp 27), (1, Operand.tmp 32)], type := 64, pos := "ref.go:116", after := #[{ on := 8, ground := Ground.data }, { on := 13, ground := Ground.data }], guard := none }) (v := ?_) rfl (by kernel_rfl) (by kernel_rfl) (by kernel_rfl) (by kernel_rfl) (by kernel_rfl) (fun _ _ _ h => h) (Or.inl ⟨rfl, ?_⟩) (by assumption) ?_
        rotate_left
        · (intro w' hSw; replace q0 := kept_cell hSw q0; replace q1 := kept_cell hSw q1; replace q2 := kept_cell hSw q2; replace q3 := kept_cell hSw q3; replace h0 := kept_cell hSw h0; replace h1 := kept_cell hSw h1; go_simp; try with_reducible rfl)
        try simp only [Act.put, List.setIfInBounds_toArray, List.set_cons_zero, List.set_cons_succ]
        refine x_one (i := 15) (o := { dst := some 34, op := Op.buildSlice 25 1 #[(0, Operand.tmp 33)], type := 25, pos := "ref.go:116", after := #[{ on := 14, ground := Ground.data }], guard := none }) (by kernel_rfl) rfl (fun K hK => ?_)
        (go_simp)
        refine hK.out _ _ ?_ (fun hHeld => ?_)
        · (try dsimp only); repeat (first | assumption | exact kept_refl _ | refine kept_drew ?_ | refine kept_alloc ?_ _ | refine kept_set ?_ (by omega) _)
        clear hK K
        try simp only [Act.put, List.setIfInBounds_toArray, List.set_cons_zero, List.set_cons_succ]
        refine x_one (i := 16) (o := { dst := some 35, op := Op.call { callee := Callee.builtin Builtin.append, args := #[Operand.tmp 19, Operand.tmp 34], argTypes := #[25, 25] }, type := 25, pos := "ref.go:116", after := #[{ on := 0, ground := Ground.data }, { on := 15, ground := Ground.data }, { on := 8, ground := Ground.chain }], guard := none }) (by kernel_rfl) rfl (fun K hK => ?_)
        (refine step_own w0.heap.size rfl (.tmp 19) (.tmp 34) 25 64 (.agg #[.int .i64 0, .slice none 0 0]) 2 32 rfl Tryz.underlying25 info67 rfl (by omega) (by omega) u7 i 1 1 ⟨w5.heap.size, 0, none⟩ (teCells S) [.int .i64 m, .slice E el.length ce] rfl rfl rfl (news_rd (Own.new w5 64 [.int .i64 m, .slice E el.length ce]).rd) (one_te _ _ _ _) (row_kept h7 (kept_alloc KR _)) hHeld.size (by omega) ?_; intro v9 w9 hr9 hg9 _; have G9 : Kept w0 w9 := kept_grown (kept_trans K1 (kept_alloc KR _)) (row_kept h7 (kept_alloc KR _)) (Nat.le_refl _) hg9)
        refine hK.out _ _ ?_ (fun hHeld => ?_)
        · (try dsimp only); repeat (first | assumption | exact kept_refl _ | refine kept_drew ?_ | refine kept_alloc ?_ _ | refine kept_set ?_ (by omega) _)
        clear hK K
        try simp only [Act.put, List.setIfInBounds_toArray, List.set_cons_zero, List.set_cons_succ]
        refine x_take (i := 17) (oi := { dst := some 7, op := Op.assign (Operand.tmp 35), type := 25, pos := "ref.go:116", after := #[{ on := 16, ground := Ground.data }, { on := 16, ground := Ground.chain }, { on := 0, ground := Ground.phase }, { on := 1, ground := Ground.phase }, { on := 2, ground := Ground.phase }, { on := 3, ground := Ground.phase }, { on := 4, ground := Ground.phase }, { on := 5, ground := Ground.phase }, { on := 6, ground := Ground.phase }, { on := 7, ground := Ground.phase }, { on := 8, ground := Ground.phase }, { on := 9, ground := Ground.phase }, { on := 10, ground := Ground.phase }, { on := 11, ground := Ground.phase }, { on := 12, ground := Ground.phase }, { on := 13, ground := Ground.phase }, { on := 14, ground := Ground.phase }, { on := 15, ground := Ground.phase }, { on := 16, ground := Ground.phase }], guard := none }) (v := ?_) rfl (by kernel_rfl) (by kernel_rfl) (by kernel_rfl) (by kernel_rfl) (by kernel_rfl) (fun _ _ _ h => h) (Or.inl ⟨rfl, ?_⟩) (by assumption) ?_
        rotate_left
        · (intro w' hSw; replace q0 := kept_cell hSw q0; replace q1 := kept_cell hSw q1; replace q2 := kept_cell hSw q2; replace q3 := kept_cell hSw q3; replace h0 := kept_cell hSw h0; replace h1 := kept_cell hSw h1; go_simp; try with_reducible rfl)
        try simp only [Act.put, List.setIfInBounds_toArray, List.set_cons_zero, List.set_cons_succ]
        refine x_done (by kernel_rfl) ?_ _
        have K9 := G9
        have hr9' : w9.ownsRow w0.heap.size 64 2 v9 (i + 1) (teCells (S ++ [⟨⟨m, el⟩, E, ce⟩])) := by
          rw [teCells_snoc]
          simpa [te2] using hr9
        clear hr9 hg9 q0 q1 q2 q3 h0 h1
        go_wp2_with fail
        go_roundg (p.length - (i + 1))
        case rel => exact ⟨i + 1, S ++ [⟨⟨m, el⟩, E, ce⟩], by omega, rfl, by go_num, hr9', Lib.hid ⟨by (rw [List.length_append, HS.out.1]; rfl), by
            rw [List.map_append, HS.out.2, take_tm hit, List.map_append]
            simp only [List.map_cons, List.map_nil]
            rw [HTM.out, HMM.out]⟩, Lib.hid (fun z hz => by
            rcases List.mem_append.1 hz with hz | hz
            · exact HK.out z hz
            · obtain rfl := List.mem_singleton.1 hz
              exact ⟨HE.out, by show el.length ≤ 1000; omega⟩), K9⟩
        case measure => omega
      · have d1 : decide ((i : Int) < (p.length : Int)) = false := decide_eq_false (by omega)
        have d2 : decide (i < p.length) = false := decide_eq_false (by omega)
        obtain rfl : i = p.length := by omega
        have hcl := HS.out.1
        obtain ⟨A7, c7, rfl⟩ := row_val h7
        have HE := Lib.hid (show S.map Te.t = rsT P M x p by rw [HS.out.2, List.take_length, HR.out])
        have HRP := Lib.hid (rp_of_row (S := S) (cap := c7) (by rw [hcl]; exact h7) (fun z hz => ((HK.out z hz).1).kept K1) (fun z hz => (HK.out z hz).2))
        have HL := Lib.hid (show (rsT P M x p).length = p.length by rw [← HE.out, List.length_map]; exact hcl)
        clear hcl
        go_wp2_with fail
        go_ret
        refine ⟨A7, c7, ?_, ?_, kept_trans K0 K1⟩
        · rw [HL.out]; rfl
        · rw [← HE.out]; exact HRP.out
end Go.Proofs.YtnjmpjdampdmmaaGreatDoor
