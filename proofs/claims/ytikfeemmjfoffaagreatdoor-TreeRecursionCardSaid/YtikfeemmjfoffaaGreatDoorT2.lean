/- Trees: the table of a bit, the program's and the reference's. -/
import Derived.Test.YtikfeemmjfoffaaGreatDoorT1
set_option linter.unusedVariables false
set_option linter.unusedSimpArgs false
namespace Go.Proofs.YtikfeemmjfoffaaGreatDoor
open Go.RowKit Go.Shelf

theorem info4 : (Tryz.prog.info? 4).map (fun i => (i.zero, i.size, i.bytes)) = some (some (.bool false), 1, 1) := by kernel_rfl
theorem make_bools (n : Nat) (hn : n ≤ 35184372088832) (W : World) :
    (Instr.makeSlice 30 (.int .i64 (n : Int)) (.int .i64 (n : Int))).run Tryz.prog W = .ok (.slice (some ⟨W.heap.size, 0, none⟩) n n) (W.alloc (.cells (bools (List.replicate n false)).toArray 4)) := by
  have h := run_make_row' (P := Tryz.prog) 30 4 (.bool false) 1 Tryz.underlying30 info4 rfl .i64 .i64 n (by omega) (by omega) W
  rw [made_list] at h
  simpa [bools] using h
theorem min_pow {k : Nat} (h : k ≤ 64) : min k 64 = k := Nat.min_eq_left h
def TabPost (l : List Bool) (w : World) (e : Ending) (w' : World) : Prop := ∃ (A' : Option Addr) (c' : Nat), e = .returned (.slice A' l.length c') ∧ Rd w' A' (bools l) ∧ Kept w w'
/-- The powers. -/
structure PowTab (bn m N M : Nat) : Prop where
  hN : N = 2 ^ bn
  hm : m = 2 * bn
  hM : M = 2 ^ m
  b6 : bn ≤ 6
  N64 : N ≤ 64
  N1 : 1 ≤ N
  M4 : M ≤ 4096
  sq : M = N * N
  e1 : min bn 64 = bn
  e2 : min m 64 = m
  w2 : IntKind.i64.wrap (2 * (bn : Int)) = (m : Int)
  w2' : wrap64 (2 * (bn : Int)) = (m : Int)
  p1 : (2 : Int) ^ bn = (N : Int)
  p2 : (2 : Int) ^ m = (M : Int)
  v1 : IntKind.i64.wrap (N : Int) = (N : Int)
  v2 : IntKind.i64.wrap (M : Int) = (M : Int)
  v3 : IntKind.i64.wrap ((N : Int) - 1) = ((N - 1 : Nat) : Int)
  v3' : wrap64 ((N : Int) - 1) = ((N - 1 : Nat) : Int)
  v4 : IntKind.i64.wrap ((N : Int) * (N : Int)) = (M : Int)
  v4' : wrap64 ((N : Int) * (N : Int)) = (M : Int)
theorem powTab {bn : Nat} (hb : bn ≤ 6) : ∃ m N M, PowTab bn m N M := by
  refine ⟨2 * bn, 2 ^ bn, 2 ^ (2 * bn), ?_⟩
  have h1 : 2 ^ bn ≤ 64 := (Nat.pow_le_pow_right (by decide) hb : 2 ^ bn ≤ 2 ^ 6)
  have h2 : 2 ^ (2 * bn) ≤ 4096 := (Nat.pow_le_pow_right (by decide) (by omega) : 2 ^ (2 * bn) ≤ 2 ^ 12)
  have h3 := Nat.two_pow_pos bn
  have h4 : 2 ^ (2 * bn) = 2 ^ bn * 2 ^ bn := by rw [show 2 * bn = bn + bn by omega, Nat.pow_add]
  have h5 : (2 : Int) ^ bn = ((2 ^ bn : Nat) : Int) := by simp
  have h6 : (2 : Int) ^ (2 * bn) = ((2 ^ (2 * bn) : Nat) : Int) := by simp
  have h7 : (((2 ^ bn : Nat) : Int) * ((2 ^ bn : Nat) : Int)) = ((2 ^ (2 * bn) : Nat) : Int) := by rw [h4]; simp
  refine ⟨rfl, rfl, rfl, hb, h1, h3, h2, h4, by omega, by omega, IntWalk.i64_in _ (by omega) |>.trans (by omega), by unfold wrap64; omega, h5, h6, ?_, ?_, ?_, ?_, ?_, ?_⟩
  · exact IntWalk.i64_in _ (by omega)
  · exact IntWalk.i64_in _ (by omega)
  · exact (IntWalk.i64_in _ (by omega)).trans (by omega)
  · exact (IntWalk.wrap64_in _ (by omega)).trans (by omega)
  · rw [h7]; exact IntWalk.i64_in _ (by omega)
  · rw [h7]; exact IntWalk.wrap64_in _ (by omega)
set_option maxRecDepth 100000 in
set_option maxHeartbeats 1000000 in
theorem table34_any (t : Tr) (g : Good t) (n k : Nat) (hn : n < t.tb.length) (hk : k ≤ 6) (A : Option Addr) (c : Nat) (T : Option Addr) (d : Nat) (w : World) (hT : RT w T t.tb) :
    Calls Tryz.prog 34 #[trV t A c T d, .int .i64 (n : Int), .int .i64 (k : Int)] w (TabPost (tabB t n k) w) := by
  obtain ⟨bn, hb⟩ : ∃ bn : Nat, t.b = bn := ⟨t.b.toNat, by have := g.b1; omega⟩
  obtain ⟨m, N, M, F⟩ := powTab (bn := bn) (by have := g.b6; omega)
  have hMp : pw (2 * t.b) = M := by rw [hb, F.hM, F.hm]; unfold pw; congr 1
  have hb2 : t.tb.length ≤ 63 := g.tb64
  have HST := Lib.hid fun i (hi : i < M) => stepT g hn k hb (i := i) (by rw [hMp]; exact hi)
  unfold trV
  rw [hb]
  have K0 := kept_alloc (kept_refl w) (.cells #[.int .i64 t.h, .int .i64 (bn : Int), .slice A t.lv.length c, .slice T t.tb.length d] 27)
  have o0 := Own.new w 27 [.int .i64 t.h, .int .i64 (bn : Int), .slice A t.lv.length c, .slice T t.tb.length d]
  obtain ⟨W0, hW0⟩ : ∃ W0, W0 = w.alloc (.cells #[.int .i64 t.h, .int .i64 (bn : Int), .slice A t.lv.length c, .slice T t.tb.length d] 27) := ⟨_, rfl⟩
  rw [← hW0] at K0 o0
  have HW0 := Lib.hid hW0
  have hmk := make_bools M (by have := F.M4; omega)
  have oe := Own.new W0 4 (bools (List.replicate M false))
  have HT := Lib.hid hT
  have HF := Lib.hid F
  have HMP := Lib.hid hMp
  have HN := Lib.hid hn
  have HG := Lib.hid g
  have q1 := o0.cell (j := 1) rfl; have q3 := o0.cell (j := 3) rfl
  have M4 := F.M4
  have e1 := F.e1; have e2 := F.e2; have f1 := F.w2; have f1' := F.w2'; have p1 := F.p1; have p2 := F.p2; have v1 := F.v1; have v2 := F.v2; have v3 := F.v3; have v3' := F.v3'
  obtain ⟨tb1, toff, A1, c1, rfl, t0, r1, l1⟩ := (hT.kept K0) n hn
  obtain ⟨L, hL⟩ : ∃ L, L = t.tb.getD n [] := ⟨_, rfl⟩
  rw [← hL] at t0 r1 l1
  have HL := Lib.hid hL
  have R1 := Lib.hid r1
  have hwn : IntKind.i64.wrap (n : Int) = (n : Int) := iw_nat (by omega)
  have T0 := Lib.hid t0
  clear hT F hMp hW0 g hL r1
  go_enter Tryz.func34, Tryz.ntmps34
  go_upto_region 1 with fail
  rw [← HW0.out]
  go_upto_region 2 with fail
  have KM := kept_alloc (kept_refl W0) (.cells (bools (List.replicate M false)).toArray 4)
  replace q1 := kept_cell KM q1
  go_wp2_with fail
  clear q1 q3 hmk e2 f1 f1' p2 v2 v3 v3' v1 t0

  go_loopg [9, 10, 11, 23] M (fun G s9 s10 s11 s23 wr => ∃ (i : Nat) (v9 v10 v11 : Value), i ≤ M ∧ G = M - i ∧ s9 = v9 ∧ s10 = v10 ∧ s11 = v11 ∧ s23 = .int .i64 i ∧ Own wr W0.heap.size 4 (bools (tabL (tabF t n k) M i)) ∧ Kept W0 wr)
  case atStart => exact ⟨0, _, _, _, by omega, rfl, rfl, rfl, rfl, rfl, by rw [tabL_zero]; exact oe, kept_alloc (kept_refl _) _⟩
  case round =>
    clear oe
    obtain ⟨i, v9, v10, v11, hi, rfl, rfl, rfl, rfl, rfl, oe, K1⟩ := hrel
    by_cases hit : i < M
    · obtain ⟨a, cc, y, z, v, ST⟩ := HST.out i hit
      have q1 := (o0.kept K1).cell (j := 1) rfl; have q3 := (o0.kept K1).cell (j := 3) rfl
      have m1 := ST.m1
      rw [← HF.out.hN] at m1
      have m2 := ST.m2; have m3 := ST.m3; have m4 := ST.m4; have m5 := ST.m5
      have n2 := ST.m2
      rw [HF.out.p1] at n2
      have n3 := ST.r3
      rw [← HF.out.hN] at n3
      have hz := ST.hz
      have hev := ST.ev
      rw [← HL.out] at hz hev
      obtain ⟨b1, o1, rfl, hd⟩ := (R1.out.kept K1).int (k := z) hz
      have x0 := hd z hz
      rw [hev] at x0
      have t0 := kept_cell K1 T0.out
      obtain ⟨bv, hbv⟩ : ∃ b, b = v.testBit k := ⟨_, rfl⟩
      have HBV := Lib.hid (show bv = tabF t n k i by rw [hbv]; exact ST.res)
      rw [← hbv] at m5
      have eb := bit_one bv
      have OE := Lib.hid oe
      have HIT := Lib.hid hit
      clear ST hd hev hbv oe
      have iz : IntKind.i64.wrap ((z : Nat) : Int) = z := iw_nat (by have := l1; have h5 : L.length = M := by { rw [HL.out, ← HMP.out]; exact HG.out.tab HN.out }; omega)
      have ii : IntKind.i64.wrap ((i : Nat) : Int) = i := iw_nat (by omega)
      have hlk : i < (tabL (tabF t n k) M i).length := by rw [tabL_len]; exact hit
      go_upto_region 6 with fail
      refine region_x (fun w' => Kept wr w') [] (by kernel_rfl) (kept_drew (kept_refl _)) (fun hHeld => ?_)
      refine x_take (i := 0) (oi := { dst := some 26, op := Op.move (Operand.tmp 9), type := 3, pos := "tree.go:64", after := #[], guard := none }) (v := ?_) rfl (by kernel_rfl) (by kernel_rfl) (by kernel_rfl) (by kernel_rfl) (by kernel_rfl) (fun _ _ _ h => h) (Or.inl ⟨rfl, ?_⟩) (by assumption) ?_
      rotate_left
      · (intro w' hSw; replace q1 := kept_cell hSw q1; go_simp; try with_reducible rfl)
      try simp only [Act.put, List.setIfInBounds_toArray, List.set_cons_zero, List.set_cons_succ]
      refine x_take (i := 1) (oi := { dst := some 27, op := Op.move (Operand.tmp 8), type := 3, pos := "tree.go:64", after := #[], guard := none }) (v := ?_) rfl (by kernel_rfl) (by kernel_rfl) (by kernel_rfl) (by kernel_rfl) (by kernel_rfl) (fun _ _ _ h => h) (Or.inl ⟨rfl, ?_⟩) (by assumption) ?_
      rotate_left
      · (intro w' hSw; replace q1 := kept_cell hSw q1; go_simp; try with_reducible rfl)
      try simp only [Act.put, List.setIfInBounds_toArray, List.set_cons_zero, List.set_cons_succ]
      refine x_take (i := 2) (oi := { dst := some 28, op := Op.binOp BinOp.and 3 (Operand.tmp 26) (Operand.tmp 27) 3, type := 3, pos := "tree.go:64", after := #[{ on := 0, ground := Ground.data }, { on := 1, ground := Ground.data }], guard := none }) (v := ?_) rfl (by kernel_rfl) (by kernel_rfl) (by kernel_rfl) (by kernel_rfl) (by kernel_rfl) (fun _ _ _ h => h) (Or.inl ⟨rfl, ?_⟩) (by assumption) ?_
      rotate_left
      · (intro w' hSw; replace q1 := kept_cell hSw q1; go_simp; try with_reducible rfl)
      try simp only [Act.put, List.setIfInBounds_toArray, List.set_cons_zero, List.set_cons_succ]
      refine x_take (i := 3) (oi := { dst := some 29, op := Op.move (Operand.tmp 9), type := 3, pos := "tree.go:64", after := #[{ on := 7, ground := Ground.gcOnly Departure.lateStores }], guard := none }) (v := ?_) rfl (by kernel_rfl) (by kernel_rfl) (by kernel_rfl) (by kernel_rfl) (by kernel_rfl) (fun _ _ _ h => h) (Or.inl ⟨rfl, ?_⟩) (by assumption) ?_
      rotate_left
      · (intro w' hSw; replace q1 := kept_cell hSw q1; go_simp; try with_reducible rfl)
      try simp only [Act.put, List.setIfInBounds_toArray, List.set_cons_zero, List.set_cons_succ]
      refine x_take (i := 4) (oi := { dst := some 30, op := Op.fieldAddr 27 (Operand.tmp 3) 1, type := 0, pos := "tree.go:64", after := #[{ on := 7, ground := Ground.gcOnly Departure.lateStores }], guard := none }) (v := ?_) rfl (by kernel_rfl) (by kernel_rfl) (by kernel_rfl) (by kernel_rfl) (by kernel_rfl) (fun _ _ _ h => h) (Or.inl ⟨rfl, ?_⟩) (by assumption) ?_
      rotate_left
      · (intro w' hSw; replace q1 := kept_cell hSw q1; go_simp; try with_reducible rfl)
      try simp only [Act.put, List.setIfInBounds_toArray, List.set_cons_zero, List.set_cons_succ]
      refine x_take (i := 5) (oi := { dst := some 31, op := Op.load 3 (Operand.tmp 30), type := 3, pos := "tree.go:64", after := #[{ on := 4, ground := Ground.data }, { on := 7, ground := Ground.gcOnly Departure.lateStores }], guard := none }) (v := ?_) rfl (by kernel_rfl) (by kernel_rfl) (by kernel_rfl) (by kernel_rfl) (by kernel_rfl) (fun _ _ _ h => h) (Or.inl ⟨rfl, ?_⟩) (by assumption) ?_
      rotate_left
      · (intro w' hSw; replace q1 := kept_cell hSw q1; go_simp; try with_reducible rfl)
      try simp only [Act.put, List.setIfInBounds_toArray, List.set_cons_zero, List.set_cons_succ]
      refine x_take (i := 6) (oi := { dst := some 32, op := Op.binOp BinOp.shr 3 (Operand.tmp 29) (Operand.tmp 31) 3, type := 3, pos := "tree.go:64", after := #[{ on := 3, ground := Ground.data }, { on := 5, ground := Ground.data }, { on := 7, ground := Ground.gcOnly Departure.lateStores }], guard := none }) (v := ?_) rfl (by kernel_rfl) (by kernel_rfl) (by kernel_rfl) (by kernel_rfl) (by kernel_rfl) (fun _ _ _ h => h) (Or.inl ⟨rfl, ?_⟩) (by assumption) ?_
      rotate_left
      · (intro w' hSw; replace q1 := kept_cell hSw q1; go_simp; try with_reducible rfl)
      try simp only [Act.put, List.setIfInBounds_toArray, List.set_cons_zero, List.set_cons_succ]
      refine x_take (i := 7) (oi := { dst := some 10, op := Op.assign (Operand.tmp 28), type := 3, pos := "tree.go:64", after := #[{ on := 2, ground := Ground.data }, { on := 0, ground := Ground.phase }, { on := 1, ground := Ground.phase }, { on := 2, ground := Ground.phase }, { on := 3, ground := Ground.textOnly Departure.lateStores }, { on := 4, ground := Ground.textOnly Departure.lateStores }, { on := 5, ground := Ground.textOnly Departure.lateStores }, { on := 6, ground := Ground.textOnly Departure.lateStores }], guard := none }) (v := ?_) rfl (by kernel_rfl) (by kernel_rfl) (by kernel_rfl) (by kernel_rfl) (by kernel_rfl) (fun _ _ _ h => h) (Or.inl ⟨rfl, ?_⟩) (by assumption) ?_
      rotate_left
      · (intro w' hSw; replace q1 := kept_cell hSw q1; go_simp; try with_reducible rfl)
      try simp only [Act.put, List.setIfInBounds_toArray, List.set_cons_zero, List.set_cons_succ]
      refine x_take (i := 8) (oi := { dst := some 11, op := Op.assign (Operand.tmp 32), type := 3, pos := "tree.go:64", after := #[{ on := 6, ground := Ground.data }, { on := 7, ground := Ground.chain }, { on := 0, ground := Ground.phase }, { on := 1, ground := Ground.phase }, { on := 2, ground := Ground.phase }, { on := 3, ground := Ground.phase }, { on := 4, ground := Ground.phase }, { on := 5, ground := Ground.phase }, { on := 6, ground := Ground.phase }, { on := 7, ground := Ground.phase }], guard := none }) (v := ?_) rfl (by kernel_rfl) (by kernel_rfl) (by kernel_rfl) (by kernel_rfl) (by kernel_rfl) (fun _ _ _ h => h) (Or.inl ⟨rfl, ?_⟩) (by assumption) ?_
      rotate_left
      · (intro w' hSw; replace q1 := kept_cell hSw q1; go_simp; try with_reducible rfl)
      try simp only [Act.put, List.setIfInBounds_toArray, List.set_cons_zero, List.set_cons_succ]
      refine x_done (by kernel_rfl) ?_ _
      have H6 := hHeld
      clear q1
      have q1 := (o0.kept (kept_trans K1 H6)).cell (j := 1) rfl
      replace q3 := kept_cell H6 q3
      replace t0 := kept_cell H6 t0
      replace x0 := kept_cell H6 x0
      go_upto_region 7 with fail
      refine region_x (fun w' => Kept wr w') [20] (by kernel_rfl) (kept_drew (H6)) (fun hHeld => ?_)
      refine x_take (i := 0) (oi := { dst := some 33, op := Op.move (Operand.tmp 7), type := 30, pos := "tree.go:65", after := #[], guard := none }) (v := ?_) rfl (by kernel_rfl) (by kernel_rfl) (by kernel_rfl) (by kernel_rfl) (by kernel_rfl) (fun _ _ _ h => h) (Or.inl ⟨rfl, ?_⟩) (by assumption) ?_
      rotate_left
      · (intro w' hSw; replace q1 := kept_cell hSw q1; replace q3 := kept_cell hSw q3; replace t0 := kept_cell hSw t0; replace x0 := kept_cell hSw x0; go_simp; try with_reducible rfl)
      try simp only [Act.put, List.setIfInBounds_toArray, List.set_cons_zero, List.set_cons_succ]
      refine x_take (i := 1) (oi := { dst := some 34, op := Op.move (Operand.tmp 9), type := 3, pos := "tree.go:65", after := #[], guard := none }) (v := ?_) rfl (by kernel_rfl) (by kernel_rfl) (by kernel_rfl) (by kernel_rfl) (by kernel_rfl) (fun _ _ _ h => h) (Or.inl ⟨rfl, ?_⟩) (by assumption) ?_
      rotate_left
      · (intro w' hSw; replace q1 := kept_cell hSw q1; replace q3 := kept_cell hSw q3; replace t0 := kept_cell hSw t0; replace x0 := kept_cell hSw x0; go_simp; try with_reducible rfl)
      try simp only [Act.put, List.setIfInBounds_toArray, List.set_cons_zero, List.set_cons_succ]
      refine x_take (i := 2) (oi := { dst := some 35, op := Op.fieldAddr 27 (Operand.tmp 3) 3, type := 0, pos := "tree.go:65", after := #[], guard := none }) (v := ?_) rfl (by kernel_rfl) (by kernel_rfl) (by kernel_rfl) (by kernel_rfl) (by kernel_rfl) (fun _ _ _ h => h) (Or.inl ⟨rfl, ?_⟩) (by assumption) ?_
      rotate_left
      · (intro w' hSw; replace q1 := kept_cell hSw q1; replace q3 := kept_cell hSw q3; replace t0 := kept_cell hSw t0; replace x0 := kept_cell hSw x0; go_simp; try with_reducible rfl)
      try simp only [Act.put, List.setIfInBounds_toArray, List.set_cons_zero, List.set_cons_succ]
      refine x_take (i := 3) (oi := { dst := some 36, op := Op.load 25 (Operand.tmp 35), type := 25, pos := "tree.go:65", after := #[{ on := 2, ground := Ground.data }], guard := none }) (v := ?_) rfl (by kernel_rfl) (by kernel_rfl) (by kernel_rfl) (by kernel_rfl) (by kernel_rfl) (fun _ _ _ h => h) (Or.inl ⟨rfl, ?_⟩) (by assumption) ?_
      rotate_left
      · (intro w' hSw; replace q1 := kept_cell hSw q1; replace q3 := kept_cell hSw q3; replace t0 := kept_cell hSw t0; replace x0 := kept_cell hSw x0; go_simp; try with_reducible rfl)
      try simp only [Act.put, List.setIfInBounds_toArray, List.set_cons_zero, List.set_cons_succ]
      refine x_take (i := 4) (oi := { dst := some 37, op := Op.move (Operand.tmp 1), type := 3, pos := "tree.go:65", after := #[], guard := none }) (v := ?_) rfl (by kernel_rfl) (by kernel_rfl) (by kernel_rfl) (by kernel_rfl) (by kernel_rfl) (fun _ _ _ h => h) (Or.inl ⟨rfl, ?_⟩) (by assumption) ?_
      rotate_left
      · (intro w' hSw; replace q1 := kept_cell hSw q1; replace q3 := kept_cell hSw q3; replace t0 := kept_cell hSw t0; replace x0 := kept_cell hSw x0; go_simp; try with_reducible rfl)
      try simp only [Act.put, List.setIfInBounds_toArray, List.set_cons_zero, List.set_cons_succ]
      refine x_take (i := 5) (oi := { dst := some 38, op := Op.indexAddr 25 (Operand.tmp 36) (Operand.tmp 37), type := 0, pos := "tree.go:65", after := #[{ on := 3, ground := Ground.data }, { on := 4, ground := Ground.data }], guard := none }) (v := ?_) rfl (by kernel_rfl) (by kernel_rfl) (by kernel_rfl) (by kernel_rfl) (by kernel_rfl) (fun _ _ _ h => h) (Or.inl ⟨rfl, ?_⟩) (by assumption) ?_
      rotate_left
      · (intro w' hSw; replace q1 := kept_cell hSw q1; replace q3 := kept_cell hSw q3; replace t0 := kept_cell hSw t0; replace x0 := kept_cell hSw x0; go_simp; try with_reducible rfl)
      try simp only [Act.put, List.setIfInBounds_toArray, List.set_cons_zero, List.set_cons_succ]
      refine x_take (i := 6) (oi := { dst := some 39, op := Op.load 24 (Operand.tmp 38), type := 24, pos := "tree.go:65", after := #[{ on := 5, ground := Ground.data }], guard := none }) (v := ?_) rfl (by kernel_rfl) (by kernel_rfl) (by kernel_rfl) (by kernel_rfl) (by kernel_rfl) (fun _ _ _ h => h) (Or.inl ⟨rfl, ?_⟩) (by assumption) ?_
      rotate_left
      · (intro w' hSw; replace q1 := kept_cell hSw q1; replace q3 := kept_cell hSw q3; replace t0 := kept_cell hSw t0; replace x0 := kept_cell hSw x0; go_simp; try with_reducible rfl)
      try simp only [Act.put, List.setIfInBounds_toArray, List.set_cons_zero, List.set_cons_succ]
      refine x_take (i := 7) (oi := { dst := some 40, op := Op.move (Operand.tmp 10), type := 3, pos := "tree.go:65", after := #[], guard := none }) (v := ?_) rfl (by kernel_rfl) (by kernel_rfl) (by kernel_rfl) (by kernel_rfl) (by kernel_rfl) (fun _ _ _ h => h) (Or.inl ⟨rfl, ?_⟩) (by assumption) ?_
      rotate_left
      · (intro w' hSw; replace q1 := kept_cell hSw q1; replace q3 := kept_cell hSw q3; replace t0 := kept_cell hSw t0; replace x0 := kept_cell hSw x0; go_simp; try with_reducible rfl)
      try simp only [Act.put, List.setIfInBounds_toArray, List.set_cons_zero, List.set_cons_succ]
      refine x_take (i := 8) (oi := { dst := some 41, op := Op.fieldAddr 27 (Operand.tmp 3) 1, type := 0, pos := "tree.go:65", after := #[], guard := none }) (v := ?_) rfl (by kernel_rfl) (by kernel_rfl) (by kernel_rfl) (by kernel_rfl) (by kernel_rfl) (fun _ _ _ h => h) (Or.inl ⟨rfl, ?_⟩) (by assumption) ?_
      rotate_left
      · (intro w' hSw; replace q1 := kept_cell hSw q1; replace q3 := kept_cell hSw q3; replace t0 := kept_cell hSw t0; replace x0 := kept_cell hSw x0; go_simp; try with_reducible rfl)
      try simp only [Act.put, List.setIfInBounds_toArray, List.set_cons_zero, List.set_cons_succ]
      refine x_take (i := 9) (oi := { dst := some 42, op := Op.load 3 (Operand.tmp 41), type := 3, pos := "tree.go:65", after := #[{ on := 8, ground := Ground.data }], guard := none }) (v := ?_) rfl (by kernel_rfl) (by kernel_rfl) (by kernel_rfl) (by kernel_rfl) (by kernel_rfl) (fun _ _ _ h => h) (Or.inl ⟨rfl, ?_⟩) (by assumption) ?_
      rotate_left
      · (intro w' hSw; replace q1 := kept_cell hSw q1; replace q3 := kept_cell hSw q3; replace t0 := kept_cell hSw t0; replace x0 := kept_cell hSw x0; go_simp; try with_reducible rfl)
      try simp only [Act.put, List.setIfInBounds_toArray, List.set_cons_zero, List.set_cons_succ]
      refine x_take (i := 10) (oi := { dst := some 43, op := Op.binOp BinOp.shl 3 (Operand.tmp 40) (Operand.tmp 42) 3, type := 3, pos := "tree.go:65", after := #[{ on := 7, ground := Ground.data }, { on := 9, ground := Ground.data }], guard := none }) (v := ?_) rfl (by kernel_rfl) (by kernel_rfl) (by kernel_rfl) (by kernel_rfl) (by kernel_rfl) (fun _ _ _ h => h) (Or.inl ⟨rfl, ?_⟩) (by assumption) ?_
      rotate_left
      · (intro w' hSw; replace q1 := kept_cell hSw q1; replace q3 := kept_cell hSw q3; replace t0 := kept_cell hSw t0; replace x0 := kept_cell hSw x0; go_simp; try with_reducible rfl)
      try simp only [Act.put, List.setIfInBounds_toArray, List.set_cons_zero, List.set_cons_succ]
      refine x_take (i := 11) (oi := { dst := some 44, op := Op.move (Operand.tmp 11), type := 3, pos := "tree.go:65", after := #[], guard := none }) (v := ?_) rfl (by kernel_rfl) (by kernel_rfl) (by kernel_rfl) (by kernel_rfl) (by kernel_rfl) (fun _ _ _ h => h) (Or.inl ⟨rfl, ?_⟩) (by assumption) ?_
      rotate_left
      · (intro w' hSw; replace q1 := kept_cell hSw q1; replace q3 := kept_cell hSw q3; replace t0 := kept_cell hSw t0; replace x0 := kept_cell hSw x0; go_simp; try with_reducible rfl)
      try simp only [Act.put, List.setIfInBounds_toArray, List.set_cons_zero, List.set_cons_succ]
      refine x_take (i := 12) (oi := { dst := some 45, op := Op.binOp BinOp.or 3 (Operand.tmp 43) (Operand.tmp 44) 3, type := 3, pos := "tree.go:65", after := #[{ on := 10, ground := Ground.data }, { on := 11, ground := Ground.data }], guard := none }) (v := ?_) rfl (by kernel_rfl) (by kernel_rfl) (by kernel_rfl) (by kernel_rfl) (by kernel_rfl) (fun _ _ _ h => h) (Or.inl ⟨rfl, ?_⟩) (by assumption) ?_
      rotate_left
      · (intro w' hSw; replace q1 := kept_cell hSw q1; replace q3 := kept_cell hSw q3; replace t0 := kept_cell hSw t0; replace x0 := kept_cell hSw x0; go_simp; try with_reducible rfl)
      try simp only [Act.put, List.setIfInBounds_toArray, List.set_cons_zero, List.set_cons_succ]
      refine x_take (i := 13) (oi := { dst := some 46, op := Op.indexAddr 24 (Operand.tmp 39) (Operand.tmp 45), type := 0, pos := "tree.go:65", after := #[{ on := 6, ground := Ground.data }, { on := 12, ground := Ground.data }], guard := none }) (v := ?_) rfl (by kernel_rfl) (by kernel_rfl) (by kernel_rfl) (by kernel_rfl) (by kernel_rfl) (fun _ _ _ h => h) (Or.inl ⟨rfl, ?_⟩) (by assumption) ?_
      rotate_left
      · (intro w' hSw; replace q1 := kept_cell hSw q1; replace q3 := kept_cell hSw q3; replace t0 := kept_cell hSw t0; replace x0 := kept_cell hSw x0; go_simp; try with_reducible rfl)
      try simp only [Act.put, List.setIfInBounds_toArray, List.set_cons_zero, List.set_cons_succ]
      refine x_take (i := 14) (oi := { dst := some 47, op := Op.load 3 (Operand.tmp 46), type := 3, pos := "tree.go:65", after := #[{ on := 13, ground := Ground.data }], guard := none }) (v := ?_) rfl (by kernel_rfl) (by kernel_rfl) (by kernel_rfl) (by kernel_rfl) (by kernel_rfl) (fun _ _ _ h => h) (Or.inl ⟨rfl, ?_⟩) (by assumption) ?_
      rotate_left
      · (intro w' hSw; replace q1 := kept_cell hSw q1; replace q3 := kept_cell hSw q3; replace t0 := kept_cell hSw t0; replace x0 := kept_cell hSw x0; go_simp; try with_reducible rfl)
      try simp only [Act.put, List.setIfInBounds_toArray, List.set_cons_zero, List.set_cons_succ]
      refine x_take (i := 15) (oi := { dst := some 48, op := Op.move (Operand.tmp 2), type := 3, pos := "tree.go:65", after := #[], guard := none }) (v := ?_) rfl (by kernel_rfl) (by kernel_rfl) (by kernel_rfl) (by kernel_rfl) (by kernel_rfl) (fun _ _ _ h => h) (Or.inl ⟨rfl, ?_⟩) (by assumption) ?_
      rotate_left
      · (intro w' hSw; replace q1 := kept_cell hSw q1; replace q3 := kept_cell hSw q3; replace t0 := kept_cell hSw t0; replace x0 := kept_cell hSw x0; go_simp; try with_reducible rfl)
      try simp only [Act.put, List.setIfInBounds_toArray, List.set_cons_zero, List.set_cons_succ]
      refine x_take (i := 16) (oi := { dst := some 49, op := Op.binOp BinOp.shr 3 (Operand.tmp 47) (Operand.tmp 48) 3, type := 3, pos := "tree.go:65", after := #[{ on := 14, ground := Ground.data }, { on := 15, ground := Ground.data }], guard := none }) (v := ?_) rfl (by kernel_rfl) (by kernel_rfl) (by kernel_rfl) (by kernel_rfl) (by kernel_rfl) (fun _ _ _ h => h) (Or.inl ⟨rfl, ?_⟩) (by assumption) ?_
      rotate_left
      · (intro w' hSw; replace q1 := kept_cell hSw q1; replace q3 := kept_cell hSw q3; replace t0 := kept_cell hSw t0; replace x0 := kept_cell hSw x0; go_simp; try with_reducible rfl)
      try simp only [Act.put, List.setIfInBounds_toArray, List.set_cons_zero, List.set_cons_succ]
      refine x_take (i := 17) (oi := { dst := some 50, op := Op.binOp BinOp.and 3 (Operand.tmp 49) (Operand.const (Value.int IntKind.i64 1)) 3, type := 3, pos := "tree.go:65", after := #[{ on := 16, ground := Ground.data }], guard := none }) (v := ?_) rfl (by kernel_rfl) (by kernel_rfl) (by kernel_rfl) (by kernel_rfl) (by kernel_rfl) (fun _ _ _ h => h) (Or.inl ⟨rfl, ?_⟩) (by assumption) ?_
      rotate_left
      · (intro w' hSw; replace q1 := kept_cell hSw q1; replace q3 := kept_cell hSw q3; replace t0 := kept_cell hSw t0; replace x0 := kept_cell hSw x0; go_simp; try with_reducible rfl)
      try simp only [Act.put, List.setIfInBounds_toArray, List.set_cons_zero, List.set_cons_succ]
      refine x_take (i := 18) (oi := { dst := some 51, op := Op.binOp BinOp.eql 3 (Operand.tmp 50) (Operand.const (Value.int IntKind.i64 1)) 3, type := 4, pos := "tree.go:65", after := #[{ on := 17, ground := Ground.data }], guard := none }) (v := ?_) rfl (by kernel_rfl) (by kernel_rfl) (by kernel_rfl) (by kernel_rfl) (by kernel_rfl) (fun _ _ _ h => h) (Or.inl ⟨rfl, ?_⟩) (by assumption) ?_
      rotate_left
      · (intro w' hSw; replace q1 := kept_cell hSw q1; replace q3 := kept_cell hSw q3; replace t0 := kept_cell hSw t0; replace x0 := kept_cell hSw x0; go_simp; try with_reducible rfl)
      try simp only [Act.put, List.setIfInBounds_toArray, List.set_cons_zero, List.set_cons_succ]
      refine x_take (i := 19) (oi := { dst := some 52, op := Op.indexAddr 30 (Operand.tmp 33) (Operand.tmp 34), type := 0, pos := "tree.go:65", after := #[{ on := 0, ground := Ground.data }, { on := 1, ground := Ground.data }, { on := 0, ground := Ground.phase }, { on := 1, ground := Ground.phase }, { on := 2, ground := Ground.phase }, { on := 3, ground := Ground.phase }, { on := 4, ground := Ground.phase }, { on := 5, ground := Ground.phase }, { on := 6, ground := Ground.phase }, { on := 7, ground := Ground.phase }, { on := 8, ground := Ground.phase }, { on := 9, ground := Ground.phase }, { on := 10, ground := Ground.phase }, { on := 11, ground := Ground.phase }, { on := 12, ground := Ground.phase }, { on := 13, ground := Ground.phase }, { on := 14, ground := Ground.phase }, { on := 15, ground := Ground.phase }, { on := 16, ground := Ground.phase }, { on := 17, ground := Ground.phase }, { on := 18, ground := Ground.phase }], guard := none }) (v := ?_) rfl (by kernel_rfl) (by kernel_rfl) (by kernel_rfl) (by kernel_rfl) (by kernel_rfl) (fun _ _ _ h => h) (Or.inl ⟨rfl, ?_⟩) (by assumption) ?_
      rotate_left
      · (intro w' hSw; replace q1 := kept_cell hSw q1; replace q3 := kept_cell hSw q3; replace t0 := kept_cell hSw t0; replace x0 := kept_cell hSw x0; go_simp; try with_reducible rfl)
      try simp only [Act.put, List.setIfInBounds_toArray, List.set_cons_zero, List.set_cons_succ]
      refine x_last (i := 20) (o := { dst := none, op := Op.store 4 (Operand.tmp 52) (Operand.tmp 51), type := 0, pos := "tree.go:65", after := #[{ on := 19, ground := Ground.data }, { on := 18, ground := Ground.data }, { on := 0, ground := Ground.phase }, { on := 1, ground := Ground.phase }, { on := 2, ground := Ground.phase }, { on := 3, ground := Ground.phase }, { on := 4, ground := Ground.phase }, { on := 5, ground := Ground.phase }, { on := 6, ground := Ground.phase }, { on := 7, ground := Ground.phase }, { on := 8, ground := Ground.phase }, { on := 9, ground := Ground.phase }, { on := 10, ground := Ground.phase }, { on := 11, ground := Ground.phase }, { on := 12, ground := Ground.phase }, { on := 13, ground := Ground.phase }, { on := 14, ground := Ground.phase }, { on := 15, ground := Ground.phase }, { on := 16, ground := Ground.phase }, { on := 17, ground := Ground.phase }, { on := 18, ground := Ground.phase }], guard := none }) (by kernel_rfl) rfl (by simp) (fun K hK => ?_)
      (have oe5 := OE.out.kept hHeld; have f4 := oe5.frozen i; have c4 := oe5.bool (j := i) hlk; go_simp)
      refine hK.out _ _ ?_
      clear hK K
      try simp only [Act.put, List.setIfInBounds_toArray, List.set_cons_zero, List.set_cons_succ]
      refine x_done (by kernel_rfl) ?_ _
      clear q1 q3 t0 x0 f4 c4
      go_wp2_with fail
      go_roundg (M - (i + 1))
      case rel => exact ⟨i + 1, _, _, _, by have := HIT.out; omega, rfl, rfl, rfl, rfl, by go_num, (by rw [← tabL_set _ HIT.out, ← HBV.out]; exact oe5.setBool i bv), kept_set (kept_trans K1 hHeld) (Nat.le_refl _) _⟩
      case measure => have := HIT.out; omega
    · obtain rfl : i = M := by omega
      go_wp2_with fail
      go_ret
      exact ⟨some ⟨W0.heap.size, 0, none⟩, i, by rw [tabB_len, HMP.out]; rfl, by (have h5 := oe.rd; rw [tabL_all] at h5; unfold tabB; rw [HMP.out]; exact h5), kept_trans K0 K1⟩
set_option maxRecDepth 100000 in
set_option maxHeartbeats 1000000 in
theorem rtable12_any (t : Tr) (g : Good t) (n k : Nat) (hn : n < t.tb.length) (hk : k ≤ 6) (A : Option Addr) (c : Nat) (T : Option Addr) (d : Nat) (w : World) (hT : RT w T t.tb) :
    Calls Tryz.prog 12 #[trV t A c T d, .int .i64 (n : Int), .int .i64 (k : Int)] w (TabPost (tabB t n k) w) := by
  obtain ⟨bn, hb⟩ : ∃ bn : Nat, t.b = bn := ⟨t.b.toNat, by have := g.b1; omega⟩
  obtain ⟨m, N, M, F⟩ := powTab (bn := bn) (by have := g.b6; omega)
  have hMp : pw (2 * t.b) = M := by rw [hb, F.hM, F.hm]; unfold pw; congr 1
  have hb2 : t.tb.length ≤ 63 := g.tb64
  have HST := Lib.hid fun i (hi : i < M) => stepT g hn k hb (i := i) (by rw [hMp]; exact hi)
  unfold trV
  rw [hb]
  have K0 := kept_alloc (kept_refl w) (.cells #[.int .i64 t.h, .int .i64 (bn : Int), .slice A t.lv.length c, .slice T t.tb.length d] 27)
  have o0 := Own.new w 27 [.int .i64 t.h, .int .i64 (bn : Int), .slice A t.lv.length c, .slice T t.tb.length d]
  obtain ⟨W0, hW0⟩ : ∃ W0, W0 = w.alloc (.cells #[.int .i64 t.h, .int .i64 (bn : Int), .slice A t.lv.length c, .slice T t.tb.length d] 27) := ⟨_, rfl⟩
  rw [← hW0] at K0 o0
  have HW0 := Lib.hid hW0
  have hmk := make_bools M (by have := F.M4; omega)
  have oe := Own.new W0 4 (bools (List.replicate M false))
  have HT := Lib.hid hT
  have HF := Lib.hid F
  have HMP := Lib.hid hMp
  have HN := Lib.hid hn
  have HG := Lib.hid g
  have q1 := o0.cell (j := 1) rfl; have q3 := o0.cell (j := 3) rfl
  have M4 := F.M4
  have e1 := F.e1; have e2 := F.e2; have f1 := F.w2; have f1' := F.w2'; have p1 := F.p1; have p2 := F.p2; have v1 := F.v1; have v2 := F.v2; have v4 := F.v4; have v4' := F.v4'
  obtain ⟨tb1, toff, A1, c1, rfl, t0, r1, l1⟩ := (hT.kept K0) n hn
  obtain ⟨L, hL⟩ : ∃ L, L = t.tb.getD n [] := ⟨_, rfl⟩
  rw [← hL] at t0 r1 l1
  have HL := Lib.hid hL
  have R1 := Lib.hid r1
  have hwn : IntKind.i64.wrap (n : Int) = (n : Int) := iw_nat (by omega)
  have T0 := Lib.hid t0
  clear hT F hMp hW0 g hL r1
  go_enter Tryz.func12, Tryz.ntmps12
  go_upto_region 1 with fail
  rw [← HW0.out]
  go_wp2_with fail
  clear q1 q3 hmk e2 f1 f1' p2 v2 v4 v4' v1 t0
  have nz : ((N : Int) == 0) = false := by have := HF.out.N1; simp; omega
  have nz2 : (N : Int) ≠ 0 := by have := HF.out.N1; omega
  have nz3 : ¬ N = 0 := by have := HF.out.N1; omega
  have nz4 : (N == 0) = false := by have := HF.out.N1; simp; omega
  go_loopg [9, 10, 11] M (fun G s9 s10 s11 wr => ∃ (i : Nat) (v10 v11 : Value), i ≤ M ∧ G = M - i ∧ s9 = .int .i64 i ∧ s10 = v10 ∧ s11 = v11 ∧ Own wr W0.heap.size 4 (bools (tabL (tabF t n k) M i)) ∧ Kept W0 wr)
  case atStart => exact ⟨0, _, _, by omega, rfl, rfl, rfl, rfl, by rw [tabL_zero]; exact oe, kept_alloc (kept_refl _) _⟩
  case round =>
    clear oe
    obtain ⟨i, v10, v11, hi, rfl, rfl, rfl, rfl, oe, K1⟩ := hrel
    by_cases hit : i < M
    · obtain ⟨a, cc, y, z, v, ST⟩ := HST.out i hit
      have q1 := (o0.kept K1).cell (j := 1) rfl; have q3 := (o0.kept K1).cell (j := 3) rfl
      have m1 : ((i : Nat) : Int).tmod (N : Int) = (a : Int) := by rw [ST.ea, ← HF.out.hN]; exact (Int.ofNat_tmod i N).symm
      have m2 : ((i : Nat) : Int).tdiv (N : Int) = (cc : Int) := by rw [ST.ec, ← HF.out.hN]; exact (Int.ofNat_tdiv i N).symm
      have m3 := ST.r3
      rw [← HF.out.hN] at m3
      have m4 := ST.r4; have m5 := ST.m5
      have ic : IntKind.i64.wrap ((cc : Nat) : Int) = cc := iw_nat (by have h5 := ST.ec; have : i / 2 ^ bn ≤ i := Nat.div_le_self _ _; omega)
      have hz := ST.hz
      have hev := ST.ev
      rw [← HL.out] at hz hev
      obtain ⟨b1, o1, rfl, hd⟩ := (R1.out.kept K1).int (k := z) hz
      have x0 := hd z hz
      rw [hev] at x0
      have t0 := kept_cell K1 T0.out
      obtain ⟨bv, hbv⟩ : ∃ b, b = v.testBit k := ⟨_, rfl⟩
      have HBV := Lib.hid (show bv = tabF t n k i by rw [hbv]; exact ST.res)
      rw [← hbv] at m5
      have eb := bit_one bv
      have OE := Lib.hid oe
      have HIT := Lib.hid hit
      clear ST hd hev hbv oe
      have iz : IntKind.i64.wrap ((z : Nat) : Int) = z := iw_nat (by have := l1; have h5 : L.length = M := by { rw [HL.out, ← HMP.out]; exact HG.out.tab HN.out }; omega)
      have ii : IntKind.i64.wrap ((i : Nat) : Int) = i := iw_nat (by omega)
      have hlk : i < (tabL (tabF t n k) M i).length := by rw [tabL_len]; exact hit
      go_upto_region 6 with fail
      refine region_x (fun w' => Kept wr w') [] (by kernel_rfl) (kept_drew (kept_refl _)) (fun hHeld => ?_)
      refine x_take (i := 0) (oi := { dst := some 25, op := Op.move (Operand.tmp 9), type := 3, pos := "ref.go:55", after := #[], guard := none }) (v := ?_) rfl (by kernel_rfl) (by kernel_rfl) (by kernel_rfl) (by kernel_rfl) (by kernel_rfl) (fun _ _ _ h => h) (Or.inl ⟨rfl, ?_⟩) (by assumption) ?_
      rotate_left
      · (intro w' hSw; replace q1 := kept_cell hSw q1; go_simp; try with_reducible rfl)
      try simp only [Act.put, List.setIfInBounds_toArray, List.set_cons_zero, List.set_cons_succ]
      refine x_take (i := 1) (oi := { dst := some 26, op := Op.move (Operand.tmp 7), type := 3, pos := "ref.go:55", after := #[], guard := none }) (v := ?_) rfl (by kernel_rfl) (by kernel_rfl) (by kernel_rfl) (by kernel_rfl) (by kernel_rfl) (fun _ _ _ h => h) (Or.inl ⟨rfl, ?_⟩) (by assumption) ?_
      rotate_left
      · (intro w' hSw; replace q1 := kept_cell hSw q1; go_simp; try with_reducible rfl)
      try simp only [Act.put, List.setIfInBounds_toArray, List.set_cons_zero, List.set_cons_succ]
      refine x_take (i := 2) (oi := { dst := some 27, op := Op.binOp BinOp.rem 3 (Operand.tmp 25) (Operand.tmp 26) 3, type := 3, pos := "ref.go:55", after := #[{ on := 0, ground := Ground.data }, { on := 1, ground := Ground.data }], guard := none }) (v := ?_) rfl (by kernel_rfl) (by kernel_rfl) (by kernel_rfl) (by kernel_rfl) (by kernel_rfl) (fun _ _ _ h => h) (Or.inl ⟨rfl, ?_⟩) (by assumption) ?_
      rotate_left
      · (intro w' hSw; replace q1 := kept_cell hSw q1; go_simp; try with_reducible rfl)
      try simp only [Act.put, List.setIfInBounds_toArray, List.set_cons_zero, List.set_cons_succ]
      refine x_take (i := 3) (oi := { dst := some 28, op := Op.move (Operand.tmp 9), type := 3, pos := "ref.go:55", after := #[{ on := 6, ground := Ground.gcOnly Departure.lateStores }], guard := none }) (v := ?_) rfl (by kernel_rfl) (by kernel_rfl) (by kernel_rfl) (by kernel_rfl) (by kernel_rfl) (fun _ _ _ h => h) (Or.inl ⟨rfl, ?_⟩) (by assumption) ?_
      rotate_left
      · (intro w' hSw; replace q1 := kept_cell hSw q1; go_simp; try with_reducible rfl)
      try simp only [Act.put, List.setIfInBounds_toArray, List.set_cons_zero, List.set_cons_succ]
      refine x_take (i := 4) (oi := { dst := some 29, op := Op.move (Operand.tmp 7), type := 3, pos := "ref.go:55", after := #[{ on := 6, ground := Ground.gcOnly Departure.lateStores }], guard := none }) (v := ?_) rfl (by kernel_rfl) (by kernel_rfl) (by kernel_rfl) (by kernel_rfl) (by kernel_rfl) (fun _ _ _ h => h) (Or.inl ⟨rfl, ?_⟩) (by assumption) ?_
      rotate_left
      · (intro w' hSw; replace q1 := kept_cell hSw q1; go_simp; try with_reducible rfl)
      try simp only [Act.put, List.setIfInBounds_toArray, List.set_cons_zero, List.set_cons_succ]
      refine x_take (i := 5) (oi := { dst := some 30, op := Op.binOp BinOp.quo 3 (Operand.tmp 28) (Operand.tmp 29) 3, type := 3, pos := "ref.go:55", after := #[{ on := 3, ground := Ground.data }, { on := 4, ground := Ground.data }, { on := 6, ground := Ground.gcOnly Departure.lateStores }], guard := none }) (v := ?_) rfl (by kernel_rfl) (by kernel_rfl) (by kernel_rfl) (by kernel_rfl) (by kernel_rfl) (fun _ _ _ h => h) (Or.inl ⟨rfl, ?_⟩) (by assumption) ?_
      rotate_left
      · (intro w' hSw; replace q1 := kept_cell hSw q1; go_simp; try with_reducible rfl)
      try simp only [Act.put, List.setIfInBounds_toArray, List.set_cons_zero, List.set_cons_succ]
      refine x_take (i := 6) (oi := { dst := some 10, op := Op.assign (Operand.tmp 27), type := 3, pos := "ref.go:55", after := #[{ on := 2, ground := Ground.data }, { on := 0, ground := Ground.phase }, { on := 1, ground := Ground.phase }, { on := 2, ground := Ground.phase }, { on := 3, ground := Ground.textOnly Departure.lateStores }, { on := 4, ground := Ground.textOnly Departure.lateStores }, { on := 5, ground := Ground.textOnly Departure.lateStores }], guard := none }) (v := ?_) rfl (by kernel_rfl) (by kernel_rfl) (by kernel_rfl) (by kernel_rfl) (by kernel_rfl) (fun _ _ _ h => h) (Or.inl ⟨rfl, ?_⟩) (by assumption) ?_
      rotate_left
      · (intro w' hSw; replace q1 := kept_cell hSw q1; go_simp; try with_reducible rfl)
      try simp only [Act.put, List.setIfInBounds_toArray, List.set_cons_zero, List.set_cons_succ]
      refine x_take (i := 7) (oi := { dst := some 11, op := Op.assign (Operand.tmp 30), type := 3, pos := "ref.go:55", after := #[{ on := 5, ground := Ground.data }, { on := 6, ground := Ground.chain }, { on := 0, ground := Ground.phase }, { on := 1, ground := Ground.phase }, { on := 2, ground := Ground.phase }, { on := 3, ground := Ground.phase }, { on := 4, ground := Ground.phase }, { on := 5, ground := Ground.phase }, { on := 6, ground := Ground.phase }], guard := none }) (v := ?_) rfl (by kernel_rfl) (by kernel_rfl) (by kernel_rfl) (by kernel_rfl) (by kernel_rfl) (fun _ _ _ h => h) (Or.inl ⟨rfl, ?_⟩) (by assumption) ?_
      rotate_left
      · (intro w' hSw; replace q1 := kept_cell hSw q1; go_simp; try with_reducible rfl)
      try simp only [Act.put, List.setIfInBounds_toArray, List.set_cons_zero, List.set_cons_succ]
      refine x_done (by kernel_rfl) ?_ _
      have H6 := hHeld
      clear q1
      have q1 := (o0.kept (kept_trans K1 H6)).cell (j := 1) rfl
      replace q3 := kept_cell H6 q3
      replace t0 := kept_cell H6 t0
      replace x0 := kept_cell H6 x0
      have oe5 := OE.out.kept H6
      have f4 := oe5.frozen i
      have c4 := oe5.bool (j := i) hlk
      go_wp2_with fail
      go_roundg (M - (i + 1))
      case rel => exact ⟨i + 1, _, _, by have := HIT.out; omega, rfl, by go_num, rfl, rfl, (by rw [← tabL_set _ HIT.out, ← HBV.out]; exact oe5.setBool i bv), kept_set (kept_trans K1 H6) (Nat.le_refl _) _⟩
      case measure => have := HIT.out; omega
    · obtain rfl : i = M := by omega
      go_wp2_with fail
      go_ret
      exact ⟨some ⟨W0.heap.size, 0, none⟩, i, by rw [tabB_len, HMP.out]; rfl, by (have h5 := oe.rd; rw [tabL_all] at h5; unfold tabB; rw [HMP.out]; exact h5), kept_trans K0 K1⟩
end Go.Proofs.YtikfeemmjfoffaaGreatDoor
