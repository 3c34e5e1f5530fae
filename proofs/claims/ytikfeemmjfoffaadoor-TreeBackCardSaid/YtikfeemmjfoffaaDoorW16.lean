/- Trees: Parse (the reference), where the numbers are in range. -/
import Derived.Test.YtikfeemmjfoffaaDoorW15
set_option linter.unusedVariables false
set_option linter.unusedSimpArgs false
namespace Go.Proofs.YtikfeemmjfoffaaDoor
open Go.RowKit Go.Shelf

theorem shl_one {b N : Nat} (h : N = 2 ^ b) (hl : N ≤ 1000000000) : wrap64 (2 ^ b) = (N : Int) ∧ IntKind.i64.wrap (2 ^ b) = (N : Int) := by
  have e : (2 : Int) ^ b = (N : Int) := by rw [h]; simp
  rw [e]
  exact ⟨w64_nat hl, iw_nat hl⟩
theorem size22 : ∀ w, (Go.sizeOf 3).run Tryd.prog w = .ok 1 w := fun w => by kernel_rfl
theorem slice_win (g n cap lo hi m : Nat) (h : lo < hi) (hc : hi ≤ cap) (hm : hi - lo = m) (W : World) :
    (Instr.slice 22 (.slice (some ⟨g, 0, none⟩) n cap) (some (.int .i64 (lo : Int))) (some (.int .i64 (hi : Int))) none).run Tryd.prog W = .ok (.slice (some ⟨g, lo, none⟩) m (cap - lo)) W := by
  have := Lib.run_slice_window (P := Tryd.prog) W 22 3 Tryd.underlying22 size22 g 0 n cap lo hi h hc
  rw [Nat.zero_add, hm] at this
  exact this
theorem natI_nonneg (l : List Nat) (k : Nat) : 0 ≤ ia (natI l) k := by
  unfold ia natI
  rw [List.getD_eq_getElem?_getD, List.getElem?_map]
  cases l[k]? <;> simp

theorem chop_get : ∀ (m k : Nat) (l : List Int) (j : Nat), j < k → (chop m k l).getD j [] = (l.drop (j * m)).take m
  | m, 0, l, j, h => by omega
  | m, k + 1, l, 0, h => by simp [chop]
  | m, k + 1, l, j + 1, h => by
    have ih := chop_get m k (l.drop m) j (by omega)
    rw [chop, List.getD_cons_succ, ih, List.drop_drop, Nat.add_mul, Nat.one_mul, Nat.add_comm]
theorem chop_length : ∀ (m k : Nat) (l : List Int), (chop m k l).length = k
  | _, 0, _ => rfl
  | m, k + 1, l => by rw [chop, List.length_cons, chop_length]
/-- The tree of a row of the right length, window by window. -/
theorem winT (l : List Int) (hn bn N M P n N2 : Nat) (e0 : ia l 0 = hn) (e1 : ia l 1 = bn) (hN : N = 2 ^ hn) (hM : M = 2 ^ (2 * bn)) (hP : P = (N - 1) * M) (hl : l.length = n) (h6 : n = 2 + N + P) (h2 : N2 = 2 + N) (hN1 : 1 ≤ N) :
    (ofNums l).h = hn ∧ (ofNums l).b = bn ∧ (ofNums l).lv = (l.drop 2).take N ∧ (ofNums l).lv.length = N ∧ (ofNums l).tb.length = N - 1 ∧
    ∀ j, j < N - 1 → (ofNums l).tb.getD j [] = (l.drop (N2 + j * M)).take M ∧ ((ofNums l).tb.getD j []).length = M ∧ N2 + j * M + M ≤ n := by
  have p1 : pw (hn : Int) = N := by rw [hN]; simp [pw]
  have p2 : pw (2 * (bn : Int)) = M := by rw [hM]; unfold pw; congr 1
  have g0 : l.getD 0 0 = (hn : Int) := e0
  have g1 : l.getD 1 0 = (bn : Int) := e1
  have hlv : (ofNums l).lv = (l.drop 2).take N := by show (l.drop 2).take (pw (l.getD 0 0)) = _; rw [g0, p1]
  have htb : (ofNums l).tb = chop M (N - 1) ((l.drop 2).drop N) := by show chop (pw (2 * l.getD 1 0)) (pw (l.getD 0 0) - 1) ((l.drop 2).drop (pw (l.getD 0 0))) = _; rw [g0, g1, p1, p2]
  refine ⟨g0, g1, hlv, by rw [hlv]; simp; omega, by rw [htb, chop_length], fun j hj => ?_⟩
  have e : (ofNums l).tb.getD j [] = (l.drop (N2 + j * M)).take M := by
    rw [htb, chop_get _ _ _ _ hj, List.drop_drop, List.drop_drop, h2]
    congr 2
    omega
  have hle : (j + 1) * M ≤ (N - 1) * M := Nat.mul_le_mul (by omega) (Nat.le_refl _)
  rw [Nat.add_mul, Nat.one_mul] at hle
  have hb : N2 + j * M + M ≤ n := by omega
  exact ⟨e, by rw [e]; simp; omega, hb⟩
/-- The tables as windows of the row. -/
def tv (g o M cap k : Nat) : List Value := (List.range k).map fun j => .slice (some ⟨g, o + j * M, none⟩) M (cap - (o + j * M))
theorem tv_succ (g o M cap k : Nat) : tv g o M cap (k + 1) = tv g o M cap k ++ [.slice (some ⟨g, o + k * M, none⟩) M (cap - (o + k * M))] := by simp [tv, List.range_succ]
@[simp] theorem tv_length (g o M cap k : Nat) : (tv g o M cap k).length = k := by simp [tv]
set_option maxRecDepth 100000 in
set_option maxHeartbeats 4000000 in
theorem rparse12_ok (s : ByteArray) (hs : s.size ≤ 40000) (w : World) (out : List Nat) (h : readN s.data.toList 0 0 = some out) (hl : out.length ≤ 41001) (h2 : 2 ≤ out.length) (b0 : ia (natI out) 0 ≤ 6) (b1 : 1 ≤ ia (natI out) 1) (b2 : ia (natI out) 1 ≤ 6) : Calls Tryd.prog 12 #[.string s] w (RParsePost s w) := by
  have hsz : s.data.toList.length = s.size := by simp
  obtain ⟨l, hll⟩ : ∃ l, l = natI out := ⟨_, rfl⟩
  have hp : parseR s.data.toList = (if l.length ≠ 2 + pw (ia l 0) + (pw (ia l 0) - 1) * pw (2 * ia l 1) then none else if validT (ofNums l) = true then some (ofNums l) else none) := by
    rw [parseR_out h, if_neg (by rw [natI_length, hsz]; unfold ia at b0 b1 b2; omega), ← hll]
    rfl
  have C := fun w' => numbers33_any s (by omega) w'
  unfold NumPost at C
  rw [h] at C
  obtain ⟨n, hn⟩ : ∃ n, n = out.length := ⟨_, rfl⟩
  have nn0 := natI_nonneg out 0
  simp only [← hll, ← hn] at C b0 b1 b2 nn0 hl h2
  have hln : l.length = n := by rw [hll, hn]; simp
  have HC := Lib.hid C
  have HN := Lib.hid hln
  have K0 := kept_alloc (kept_refl w) (.cells #[.int .i64 0, .int .i64 0, .slice none 0 0, .slice none 0 0] 25)
  have O0 := Own.new w 25 [.int .i64 0, .int .i64 0, .slice none 0 0, .slice none 0 0]
  obtain ⟨hn', e0⟩ : ∃ k : Nat, ia l 0 = k := ⟨(ia l 0).toNat, by omega⟩
  obtain ⟨bn, e1⟩ : ∃ k : Nat, ia l 1 = k := ⟨(ia l 1).toNat, by omega⟩
  rw [e0, e1] at hp
  have hh6 : hn' ≤ 6 := by omega
  have hb6 : bn ≤ 6 := by omega
  have hb1 : 1 ≤ bn := by omega
  obtain ⟨N, hN⟩ : ∃ N, N = 2 ^ hn' := ⟨_, rfl⟩
  obtain ⟨M, hM⟩ : ∃ M, M = 2 ^ (2 * bn) := ⟨_, rfl⟩
  have hN1 : 1 ≤ N := by rw [hN]; exact Nat.two_pow_pos _
  have hN64 : N ≤ 64 := by rw [hN]; exact Nat.pow_le_pow_right (n := 2) (by omega) hh6
  have hN63 : N - 1 ≤ 63 := Nat.sub_le_sub_right hN64 1
  have hM1 : 1 ≤ M := by rw [hM]; exact Nat.two_pow_pos _
  have hM4 : M ≤ 4096 := by rw [hM]; exact Nat.pow_le_pow_right (n := 2) (by omega) (by omega : 2 * bn ≤ 12)
  have p1 : pw (hn' : Int) = N := by rw [hN]; simp [pw]
  have p2 : pw (2 * (bn : Int)) = M := by rw [hM]; unfold pw; congr 1
  rw [p1, p2, hln] at hp
  obtain ⟨m2, hm2⟩ : ∃ m, m = 2 * bn := ⟨_, rfl⟩
  rw [← hm2] at hM
  have s1 := (shl_one hN (by omega)).2
  have s2 := (w_two hm2.symm (by omega)).2
  have s3 := (shl_one hM (by omega)).2
  have s3m : IntKind.i64.wrap (2 ^ min m2 64) = (M : Int) := by rw [Nat.min_eq_left (by omega)]; exact s3
  have s1m : IntKind.i64.wrap (2 ^ min hn' 64) = (N : Int) := by rw [Nat.min_eq_left (by omega)]; exact s1
  obtain ⟨P, hP⟩ : ∃ P, P = (N - 1) * M := ⟨_, rfl⟩
  rw [← hP] at hp
  have hPl : P ≤ 63 * 4096 := by rw [hP]; exact Nat.mul_le_mul hN63 hM4
  have hPi : ((N : Int) - 1) * (M : Int) = (P : Int) := by rw [hP, ← Int.natCast_one, ← Int.natCast_sub hN1]; simp
  have HP := Lib.hid hp
  have HPI := Lib.hid hPi; clear hPi
  have HZ := Lib.hid (And.intro hN (And.intro hM (And.intro hm2 hP)))
  have HE := Lib.hid (And.intro e0 e1)
  have m6 : m2 ≤ 12 := by omega
  have i0 : 0 < n := by omega
  have i1 : 1 < n := by omega
  have i1' : (1 : Int) < (n : Int) := by omega
  have d1 : decide (40000 < s.size) = false := decide_eq_false (by omega)
  have d2 : decide ((40000 : Int) < (s.size : Int)) = false := decide_eq_false (by omega)
  have d3 : decide (n < 2) = false := decide_eq_false (by omega)
  have d4 : decide ((n : Int) < 2) = false := decide_eq_false (by omega)
  have x1 : decide ((6 : Int) < (hn' : Int)) = false := decide_eq_false (by omega)
  have x2 : decide ((bn : Int) < 1) = false := decide_eq_false (by omega)
  have x3 : decide ((6 : Int) < (bn : Int)) = false := decide_eq_false (by omega)
  have x1' : decide (6 < hn') = false := decide_eq_false (by omega)
  have x2' : decide (bn < 1) = false := decide_eq_false (by omega)
  have x3' : decide (6 < bn) = false := decide_eq_false (by omega)
  have x4 : bn ≠ 0 := by omega
  clear C hp h hll hn hln hsz p1 p2 hN hM hm2 hP nn0 b0 b1 b2
  go_enter Tryd.func12, Tryd.ntmps12
  go_upto_region 4 with (go_at_call 33; ((with_reducible refine (HC.out _).mono ?_); rintro e w1 ⟨v, rfl, hr, k1⟩; obtain ⟨g, cap, rest, rfl, hg, og, hc1, hc2, hc3, hc4⟩ := row_own hr (by omega); have y0 := og.pre (j := 0) (by rw [HN.out]; omega); have y1 := og.pre (j := 1) (by rw [HN.out]; omega); rw [HE.out.1] at y0; rw [HE.out.2] at y1))
  have kw := kept_trans K0 k1
  have a1 := O0.kept k1
  clear hr O0 HC e0 e1 hc3 hc4
  refine region_x (fun w' => Kept w1 w') [8] (by kernel_rfl) (kept_drew (kept_refl _)) (fun hHeld => ?_)
  refine x_take (i := 0) (oi := { dst := some 47, op := Op.move (Operand.tmp 4), type := 22, pos := "ref.go:127", after := #[], guard := none }) (v := ?_) rfl (by kernel_rfl) (by kernel_rfl) (by kernel_rfl) (by kernel_rfl) (by kernel_rfl) (fun _ _ _ h => h) (Or.inl ⟨rfl, ?_⟩) (by assumption) ?_
  rotate_left
  · (intro w' hSw; replace y0 := kept_cell hSw y0; replace y1 := kept_cell hSw y1; go_simp; try with_reducible rfl)
  try simp only [Act.put, List.setIfInBounds_toArray, List.set_cons_zero, List.set_cons_succ]
  refine x_take (i := 1) (oi := { dst := some 48, op := Op.indexAddr 22 (Operand.tmp 47) (Operand.const (Value.int IntKind.i64 0)), type := 0, pos := "ref.go:127", after := #[{ on := 0, ground := Ground.data }], guard := none }) (v := ?_) rfl (by kernel_rfl) (by kernel_rfl) (by kernel_rfl) (by kernel_rfl) (by kernel_rfl) (fun _ _ _ h => h) (Or.inl ⟨rfl, ?_⟩) (by assumption) ?_
  rotate_left
  · (intro w' hSw; replace y0 := kept_cell hSw y0; replace y1 := kept_cell hSw y1; go_simp; try with_reducible rfl)
  try simp only [Act.put, List.setIfInBounds_toArray, List.set_cons_zero, List.set_cons_succ]
  refine x_take (i := 2) (oi := { dst := some 49, op := Op.load 3 (Operand.tmp 48), type := 3, pos := "ref.go:127", after := #[{ on := 1, ground := Ground.data }], guard := none }) (v := ?_) rfl (by kernel_rfl) (by kernel_rfl) (by kernel_rfl) (by kernel_rfl) (by kernel_rfl) (fun _ _ _ h => h) (Or.inl ⟨rfl, ?_⟩) (by assumption) ?_
  rotate_left
  · (intro w' hSw; replace y0 := kept_cell hSw y0; replace y1 := kept_cell hSw y1; go_simp; try with_reducible rfl)
  try simp only [Act.put, List.setIfInBounds_toArray, List.set_cons_zero, List.set_cons_succ]
  refine x_take (i := 3) (oi := { dst := some 50, op := Op.move (Operand.tmp 4), type := 22, pos := "ref.go:127", after := #[], guard := none }) (v := ?_) rfl (by kernel_rfl) (by kernel_rfl) (by kernel_rfl) (by kernel_rfl) (by kernel_rfl) (fun _ _ _ h => h) (Or.inl ⟨rfl, ?_⟩) (by assumption) ?_
  rotate_left
  · (intro w' hSw; replace y0 := kept_cell hSw y0; replace y1 := kept_cell hSw y1; go_simp; try with_reducible rfl)
  try simp only [Act.put, List.setIfInBounds_toArray, List.set_cons_zero, List.set_cons_succ]
  refine x_take (i := 4) (oi := { dst := some 51, op := Op.indexAddr 22 (Operand.tmp 50) (Operand.const (Value.int IntKind.i64 1)), type := 0, pos := "ref.go:127", after := #[{ on := 3, ground := Ground.data }], guard := none }) (v := ?_) rfl (by kernel_rfl) (by kernel_rfl) (by kernel_rfl) (by kernel_rfl) (by kernel_rfl) (fun _ _ _ h => h) (Or.inl ⟨rfl, ?_⟩) (by assumption) ?_
  rotate_left
  · (intro w' hSw; replace y0 := kept_cell hSw y0; replace y1 := kept_cell hSw y1; go_simp; try with_reducible rfl)
  try simp only [Act.put, List.setIfInBounds_toArray, List.set_cons_zero, List.set_cons_succ]
  refine x_take (i := 5) (oi := { dst := some 52, op := Op.load 3 (Operand.tmp 51), type := 3, pos := "ref.go:127", after := #[{ on := 4, ground := Ground.data }], guard := none }) (v := ?_) rfl (by kernel_rfl) (by kernel_rfl) (by kernel_rfl) (by kernel_rfl) (by kernel_rfl) (fun _ _ _ h => h) (Or.inl ⟨rfl, ?_⟩) (by assumption) ?_
  rotate_left
  · (intro w' hSw; replace y0 := kept_cell hSw y0; replace y1 := kept_cell hSw y1; go_simp; try with_reducible rfl)
  try simp only [Act.put, List.setIfInBounds_toArray, List.set_cons_zero, List.set_cons_succ]
  refine x_take (i := 6) (oi := { dst := some 53, op := Op.build 25 #[(0, Operand.tmp 49), (1, Operand.tmp 52)], type := 25, pos := "ref.go:127", after := #[{ on := 2, ground := Ground.data }, { on := 5, ground := Ground.data }], guard := none }) (v := ?_) rfl (by kernel_rfl) (by kernel_rfl) (by kernel_rfl) (by kernel_rfl) (by kernel_rfl) (fun _ _ _ h => h) (Or.inl ⟨rfl, ?_⟩) (by assumption) ?_
  rotate_left
  · (intro w' hSw; replace y0 := kept_cell hSw y0; replace y1 := kept_cell hSw y1; go_simp; try with_reducible rfl)
  try simp only [Act.put, List.setIfInBounds_toArray, List.set_cons_zero, List.set_cons_succ]
  refine x_one (i := 7) (o := { dst := some 6, op := Op.alloc 25, type := 0, pos := "ref.go:127", after := #[], guard := none }) (by kernel_rfl) rfl (fun K hK => ?_)
  (go_simp)
  refine hK.out _ _ ?_ (fun hHeld => ?_)
  · (try dsimp only); repeat (first | assumption | exact kept_refl _ | refine kept_drew ?_ | refine kept_alloc ?_ _ | refine kept_set ?_ (by omega) _)
  clear hK K
  try simp only [Act.put, List.setIfInBounds_toArray, List.set_cons_zero, List.set_cons_succ]
  refine x_last (i := 8) (o := { dst := none, op := Op.store 25 (Operand.tmp 6) (Operand.tmp 53), type := 0, pos := "ref.go:127", after := #[{ on := 7, ground := Ground.data }, { on := 6, ground := Ground.data }, { on := 0, ground := Ground.phase }, { on := 1, ground := Ground.phase }, { on := 2, ground := Ground.phase }, { on := 3, ground := Ground.phase }, { on := 4, ground := Ground.phase }, { on := 5, ground := Ground.phase }, { on := 6, ground := Ground.phase }, { on := 7, ground := Ground.phase }], guard := none }) (by kernel_rfl) rfl (by simp) (fun K hK => ?_)
  (go_simp)
  refine hK.out _ _ ?_
  clear hK K
  try simp only [Act.put, List.setIfInBounds_toArray, List.set_cons_zero, List.set_cons_succ]
  refine x_done (by kernel_rfl) ?_ _
  obtain ⟨W3, hW3⟩ : ∃ x, x = (w1.alloc (.cells #[.int .i64 (hn' : Int), .int .i64 (bn : Int), .slice none 0 0, .slice none 0 0] 25)).drew := ⟨_, rfl⟩
  rw [← hW3]
  have k3 : Kept w1 W3 := by rw [hW3]; exact kept_drew (kept_alloc (kept_refl _) _)
  have o6 : Own W3 w1.heap.size 25 [.int .i64 (hn' : Int), .int .i64 (bn : Int), .slice none 0 0, .slice none 0 0] := by rw [hW3]; exact (Own.new w1 25 _).drew
  have q0 := o6.cell (j := 0) rfl; have q1 := o6.cell (j := 1) rfl; have q2 := o6.cell (j := 2) rfl; have q3 := o6.cell (j := 3) rfl
  clear hW3 y0 y1
  go_wp2_with fail
  refine region_x (fun w' => Kept W3 w') [] (by kernel_rfl) (kept_drew (kept_refl _)) (fun hHeld => ?_)
  refine x_take (i := 0) (oi := { dst := some 54, op := Op.fieldAddr 25 (Operand.tmp 6) 0, type := 0, pos := "ref.go:128", after := #[], guard := none }) (v := ?_) rfl (by kernel_rfl) (by kernel_rfl) (by kernel_rfl) (by kernel_rfl) (by kernel_rfl) (fun _ _ _ h => h) (Or.inl ⟨rfl, ?_⟩) (by assumption) ?_
  rotate_left
  · (intro w' hSw; replace q0 := kept_cell hSw q0; replace q1 := kept_cell hSw q1; replace q2 := kept_cell hSw q2; replace q3 := kept_cell hSw q3; go_simp; try with_reducible rfl)
  try simp only [Act.put, List.setIfInBounds_toArray, List.set_cons_zero, List.set_cons_succ]
  refine x_take (i := 1) (oi := { dst := some 55, op := Op.load 3 (Operand.tmp 54), type := 3, pos := "ref.go:128", after := #[{ on := 0, ground := Ground.data }], guard := none }) (v := ?_) rfl (by kernel_rfl) (by kernel_rfl) (by kernel_rfl) (by kernel_rfl) (by kernel_rfl) (fun _ _ _ h => h) (Or.inl ⟨rfl, ?_⟩) (by assumption) ?_
  rotate_left
  · (intro w' hSw; replace q0 := kept_cell hSw q0; replace q1 := kept_cell hSw q1; replace q2 := kept_cell hSw q2; replace q3 := kept_cell hSw q3; go_simp; try with_reducible rfl)
  try simp only [Act.put, List.setIfInBounds_toArray, List.set_cons_zero, List.set_cons_succ]
  refine x_take (i := 2) (oi := { dst := some 56, op := Op.binOp BinOp.shl 3 (Operand.const (Value.int IntKind.i64 1)) (Operand.tmp 55) 3, type := 3, pos := "ref.go:128", after := #[{ on := 1, ground := Ground.data }], guard := none }) (v := ?_) rfl (by kernel_rfl) (by kernel_rfl) (by kernel_rfl) (by kernel_rfl) (by kernel_rfl) (fun _ _ _ h => h) (Or.inl ⟨rfl, ?_⟩) (by assumption) ?_
  rotate_left
  · (intro w' hSw; replace q0 := kept_cell hSw q0; replace q1 := kept_cell hSw q1; replace q2 := kept_cell hSw q2; replace q3 := kept_cell hSw q3; go_simp; try with_reducible rfl)
  try simp only [Act.put, List.setIfInBounds_toArray, List.set_cons_zero, List.set_cons_succ]
  refine x_take (i := 3) (oi := { dst := some 57, op := Op.fieldAddr 25 (Operand.tmp 6) 1, type := 0, pos := "ref.go:128", after := #[{ on := 7, ground := Ground.gcOnly Departure.lateStores }], guard := none }) (v := ?_) rfl (by kernel_rfl) (by kernel_rfl) (by kernel_rfl) (by kernel_rfl) (by kernel_rfl) (fun _ _ _ h => h) (Or.inl ⟨rfl, ?_⟩) (by assumption) ?_
  rotate_left
  · (intro w' hSw; replace q0 := kept_cell hSw q0; replace q1 := kept_cell hSw q1; replace q2 := kept_cell hSw q2; replace q3 := kept_cell hSw q3; go_simp; try with_reducible rfl)
  try simp only [Act.put, List.setIfInBounds_toArray, List.set_cons_zero, List.set_cons_succ]
  refine x_take (i := 4) (oi := { dst := some 58, op := Op.load 3 (Operand.tmp 57), type := 3, pos := "ref.go:128", after := #[{ on := 3, ground := Ground.data }, { on := 7, ground := Ground.gcOnly Departure.lateStores }], guard := none }) (v := ?_) rfl (by kernel_rfl) (by kernel_rfl) (by kernel_rfl) (by kernel_rfl) (by kernel_rfl) (fun _ _ _ h => h) (Or.inl ⟨rfl, ?_⟩) (by assumption) ?_
  rotate_left
  · (intro w' hSw; replace q0 := kept_cell hSw q0; replace q1 := kept_cell hSw q1; replace q2 := kept_cell hSw q2; replace q3 := kept_cell hSw q3; go_simp; try with_reducible rfl)
  try simp only [Act.put, List.setIfInBounds_toArray, List.set_cons_zero, List.set_cons_succ]
  refine x_take (i := 5) (oi := { dst := some 59, op := Op.binOp BinOp.mul 3 (Operand.const (Value.int IntKind.i64 2)) (Operand.tmp 58) 3, type := 3, pos := "ref.go:128", after := #[{ on := 4, ground := Ground.data }, { on := 7, ground := Ground.gcOnly Departure.lateStores }], guard := none }) (v := ?_) rfl (by kernel_rfl) (by kernel_rfl) (by kernel_rfl) (by kernel_rfl) (by kernel_rfl) (fun _ _ _ h => h) (Or.inl ⟨rfl, ?_⟩) (by assumption) ?_
  rotate_left
  · (intro w' hSw; replace q0 := kept_cell hSw q0; replace q1 := kept_cell hSw q1; replace q2 := kept_cell hSw q2; replace q3 := kept_cell hSw q3; go_simp; try with_reducible rfl)
  try simp only [Act.put, List.setIfInBounds_toArray, List.set_cons_zero, List.set_cons_succ]
  refine x_take (i := 6) (oi := { dst := some 60, op := Op.binOp BinOp.shl 3 (Operand.const (Value.int IntKind.i64 1)) (Operand.tmp 59) 3, type := 3, pos := "ref.go:128", after := #[{ on := 5, ground := Ground.data }, { on := 7, ground := Ground.gcOnly Departure.lateStores }], guard := none }) (v := ?_) rfl (by kernel_rfl) (by kernel_rfl) (by kernel_rfl) (by kernel_rfl) (by kernel_rfl) (fun _ _ _ h => h) (Or.inl ⟨rfl, ?_⟩) (by assumption) ?_
  rotate_left
  · (intro w' hSw; replace q0 := kept_cell hSw q0; replace q1 := kept_cell hSw q1; replace q2 := kept_cell hSw q2; replace q3 := kept_cell hSw q3; go_simp; try with_reducible rfl)
  try simp only [Act.put, List.setIfInBounds_toArray, List.set_cons_zero, List.set_cons_succ]
  refine x_take (i := 7) (oi := { dst := some 7, op := Op.assign (Operand.tmp 56), type := 3, pos := "ref.go:128", after := #[{ on := 2, ground := Ground.data }, { on := 0, ground := Ground.phase }, { on := 1, ground := Ground.phase }, { on := 2, ground := Ground.phase }, { on := 3, ground := Ground.textOnly Departure.lateStores }, { on := 4, ground := Ground.textOnly Departure.lateStores }, { on := 5, ground := Ground.textOnly Departure.lateStores }, { on := 6, ground := Ground.textOnly Departure.lateStores }], guard := none }) (v := ?_) rfl (by kernel_rfl) (by kernel_rfl) (by kernel_rfl) (by kernel_rfl) (by kernel_rfl) (fun _ _ _ h => h) (Or.inl ⟨rfl, ?_⟩) (by assumption) ?_
  rotate_left
  · (intro w' hSw; replace q0 := kept_cell hSw q0; replace q1 := kept_cell hSw q1; replace q2 := kept_cell hSw q2; replace q3 := kept_cell hSw q3; go_simp; try with_reducible rfl)
  try simp only [Act.put, List.setIfInBounds_toArray, List.set_cons_zero, List.set_cons_succ]
  refine x_take (i := 8) (oi := { dst := some 8, op := Op.assign (Operand.tmp 60), type := 3, pos := "ref.go:128", after := #[{ on := 6, ground := Ground.data }, { on := 7, ground := Ground.chain }, { on := 0, ground := Ground.phase }, { on := 1, ground := Ground.phase }, { on := 2, ground := Ground.phase }, { on := 3, ground := Ground.phase }, { on := 4, ground := Ground.phase }, { on := 5, ground := Ground.phase }, { on := 6, ground := Ground.phase }, { on := 7, ground := Ground.phase }], guard := none }) (v := ?_) rfl (by kernel_rfl) (by kernel_rfl) (by kernel_rfl) (by kernel_rfl) (by kernel_rfl) (fun _ _ _ h => h) (Or.inl ⟨rfl, ?_⟩) (by assumption) ?_
  rotate_left
  · (intro w' hSw; replace q0 := kept_cell hSw q0; replace q1 := kept_cell hSw q1; replace q2 := kept_cell hSw q2; replace q3 := kept_cell hSw q3; go_simp; try with_reducible rfl)
  try simp only [Act.put, List.setIfInBounds_toArray, List.set_cons_zero, List.set_cons_succ]
  refine x_done (by kernel_rfl) ?_ _
  have k4 : Kept w1 W3.drew := kept_drew k3
  have o7 : Own W3.drew w1.heap.size 25 [.int .i64 (hn' : Int), .int .i64 (bn : Int), .slice none 0 0, .slice none 0 0] := o6.drew
  generalize W3.drew = W4 at *
  clear o6 k3 q0 q1 q2 q3
  have q0 := o7.cell (j := 0) rfl; have q1 := o7.cell (j := 1) rfl; have q2 := o7.cell (j := 2) rfl; have q3 := o7.cell (j := 3) rfl
  have hPi := HPI.out
  by_cases hlen : n = 2 + N + P
  rotate_left
  · have e6 : ((n : Int) != 2 + (N : Int) + (P : Int)) = true := by simp; omega
    have hp2 : parseR s.data.toList = none := by rw [HP.out, if_pos hlen]
    have HP2 := Lib.hid hp2
    clear hp2 hlen
    have a4 := a1.kept k4
    have e0 := a4.cell (j := 0) rfl; have e1 := a4.cell (j := 1) rfl; have e2 := a4.cell (j := 2) rfl; have e3 := a4.cell (j := 3) rfl; have f0 := a4.frozen 0; have f1 := a4.frozen 1; have f2 := a4.frozen 2; have f3 := a4.frozen 3
    go_wp2_with fail
    have o3 := own_set4 a4 (.int .i64 0) (.int .i64 0) (.slice none 0 0) (.slice none 0 0)
    have pk := kept_set4 (kept_trans kw k4) (Nat.le_refl _) (.int .i64 0) (.int .i64 0) (.slice none 0 0) (.slice none 0 0)
    unfold set4 at o3 pk
    obtain ⟨W2, hW2⟩ : ∃ W2, W2 = (((W4.setCell ⟨w.heap.size, 0, none⟩ (.int .i64 0)).setCell ⟨w.heap.size, 1, none⟩ (.int .i64 0)).setCell ⟨w.heap.size, 2, none⟩ (.slice none 0 0)).setCell ⟨w.heap.size, 3, none⟩ (.slice none 0 0) := ⟨_, rfl⟩
    rw [← hW2] at pk o3 ⊢
    clear hW2 e0 e1 e2 e3 q0 q1 q2 q3
    have q0 := o3.cell (j := 0) rfl; have q1 := o3.cell (j := 1) rfl; have q2 := o3.cell (j := 2) rfl; have q3 := o3.cell (j := 3) rfl
    exact bodyPost_ret (v := .tuple #[.agg #[.int .i64 0, .int .i64 0, .slice none 0 0, .slice none 0 0], .bool false]) (by simp [results, Tryd.results12, go_sem, q0, q1, q2, q3]) rfl (rp_none HP2.out rfl pk)
  have e6 : ((n : Int) != 2 + (N : Int) + (P : Int)) = false := by simp; omega
  have ncap : 2 + N ≤ cap := by omega
  obtain ⟨N2, hN2⟩ : ∃ N2, N2 = 2 + N := ⟨_, rfl⟩
  have hd2 : N2 - 2 = N := by omega
  have hc2' : N2 ≤ cap := by omega
  have w2 : ((2 : Int) + (N : Int)) = (N2 : Int) := by omega
  have f2 := o7.frozen 2
  have HN2 := Lib.hid hN2; clear hN2
  go_wp2_with fail
  obtain ⟨sl, hsl0⟩ : ∃ sl : Value, sl = .slice (some ⟨g, 2, none⟩) N (cap - 2) := ⟨_, rfl⟩
  rw [← hsl0]
  have k5 : Kept w1 (W4.setCell ⟨w1.heap.size, 2, none⟩ sl) := kept_set k4 (Nat.le_refl _) _
  have o5 : Own (W4.setCell ⟨w1.heap.size, 2, none⟩ sl) w1.heap.size 25 [.int .i64 (hn' : Int), .int .i64 (bn : Int), sl, .slice none 0 0] := o7.set 2 sl
  generalize W4.setCell ⟨w1.heap.size, 2, none⟩ sl = W5 at *
  have HSL := Lib.hid hsl0
  have E6 := Lib.hid hlen
  have gW1 : w.heap.size + 1 ≤ w1.heap.size := by have := k1.size; simpa using this
  clear q0 q1 q2 q3 o7 k4 f2 hd2 hsl0 e6 hlen hPi
  go_loopg [9] (N - 1) (fun g' s9 wr => ∃ (k : Nat) (v : Value), k ≤ N - 1 ∧ g' = N - 1 - k ∧ s9 = .int .i64 k ∧ Own wr w1.heap.size 25 [.int .i64 (hn' : Int), .int .i64 (bn : Int), sl, v] ∧ wr.ownsRow (w1.heap.size + 1) 22 1 v k (tv g N2 M cap k) ∧ Kept w1 wr)
  case atStart => exact ⟨0, _, by omega, by omega, rfl, o5, World.ownsRow_nil _ _ _ _, k5⟩
  case round =>
    clear o5 k5
    obtain ⟨k, v, hk, rfl, rfl, o5, hr, k5⟩ := hrel
    have q0 := o5.cell (j := 0) rfl; have q1 := o5.cell (j := 1) rfl; have q2 := o5.cell (j := 2) rfl; have q3 := o5.cell (j := 3) rfl
    by_cases hlt : k < N - 1
    · have dk : decide ((k : Int) < (N : Int) - 1) = true := decide_eq_true (by omega)
      obtain ⟨r, hr1⟩ : ∃ r, r = k * M := ⟨_, rfl⟩
      have hri : (k : Int) * (M : Int) = (r : Int) := by rw [hr1]; simp
      have hrP : r + M ≤ P := by
        have h1 := HZ.out.2.2.2
        have h2 : (k + 1) * M ≤ (N - 1) * M := Nat.mul_le_mul (by omega) (Nat.le_refl _)
        rw [Nat.add_mul, Nat.one_mul] at h2
        omega
      obtain ⟨fr, hfr⟩ : ∃ fr, fr = N2 + r := ⟨_, rfl⟩
      obtain ⟨fe, hto⟩ : ∃ fe, fe = fr + M := ⟨_, rfl⟩
      have wf : ((N2 : Int) + (r : Int)) = (fr : Int) := by omega
      have wt := (w_add hto.symm (by omega)).2
      have hd2 : fe - fr = M := by omega
      have hfc : fe ≤ cap := by have := E6.out; have := HN2.out; omega
      have hff : fr ≤ fe := by omega
      have hcf : ¬ cap = fr := by omega
      have hrl : r ≤ 63 * 4096 := by omega
      have hto2 : fe ≤ 1000000 := by omega
      have HR1 := Lib.hid (And.intro hr1 (And.intro hfr hto))
      have hbR : ∀ b, v.ownBlock = some b → w1.heap.size + 1 ≤ b ∧ b < wr.heap.size := fun b hb => hr.lt b hb
      have HB := Lib.hid hbR
      clear hr1 hfr hto hbR
      go_upto_region 13 with (fail)
      clear hri wf w2 dk
      have sz : w1.heap.size + 1 ≤ wr.heap.size := o5.lt
      refine region_x (fun w' => w'.cell? ⟨w1.heap.size, 3, none⟩ = some v) [11] (by kernel_rfl) ?_ (fun hHeld => ?_)
      · exact cell_drew q3
      refine x_take (i := 0) (oi := { dst := some 89, op := Op.fieldAddr 25 (Operand.tmp 6) 3, type := 0, pos := "ref.go:135", after := #[], guard := none }) (v := ?_) rfl (by kernel_rfl) (by kernel_rfl) (by kernel_rfl) (by kernel_rfl) (by kernel_rfl) (fun _ _ _ h => h) (Or.inl ⟨rfl, ?_⟩) (by assumption) ?_
      rotate_left
      · (intro w hSw; (try dsimp only at hSw); (try obtain ⟨hSa, hSb⟩ := hSw); (try obtain ⟨hSb, hSc⟩ := hSb); (try obtain ⟨hSc, hSd⟩ := hSc); (try obtain ⟨hSd, hSe⟩ := hSd); (try obtain ⟨hSe, hSf⟩ := hSe); go_simp; try with_reducible rfl)
      try simp only [Act.put, List.setIfInBounds_toArray, List.set_cons_zero, List.set_cons_succ]
      refine x_take (i := 1) (oi := { dst := some 90, op := Op.load 23 (Operand.tmp 89), type := 23, pos := "ref.go:135", after := #[{ on := 0, ground := Ground.data }], guard := none }) (v := ?_) rfl (by kernel_rfl) (by kernel_rfl) (by kernel_rfl) (by kernel_rfl) (by kernel_rfl) (fun _ _ _ h => h) (Or.inl ⟨rfl, ?_⟩) (by assumption) ?_
      rotate_left
      · (intro w hSw; (try dsimp only at hSw); (try obtain ⟨hSa, hSb⟩ := hSw); (try obtain ⟨hSb, hSc⟩ := hSb); (try obtain ⟨hSc, hSd⟩ := hSc); (try obtain ⟨hSd, hSe⟩ := hSd); (try obtain ⟨hSe, hSf⟩ := hSe); go_simp; try with_reducible rfl)
      try simp only [Act.put, List.setIfInBounds_toArray, List.set_cons_zero, List.set_cons_succ]
      refine x_take (i := 2) (oi := { dst := some 91, op := Op.move (Operand.tmp 4), type := 22, pos := "ref.go:135", after := #[], guard := none }) (v := ?_) rfl (by kernel_rfl) (by kernel_rfl) (by kernel_rfl) (by kernel_rfl) (by kernel_rfl) (fun _ _ _ h => h) (Or.inl ⟨rfl, ?_⟩) (by assumption) ?_
      rotate_left
      · (intro w hSw; (try dsimp only at hSw); (try obtain ⟨hSa, hSb⟩ := hSw); (try obtain ⟨hSb, hSc⟩ := hSb); (try obtain ⟨hSc, hSd⟩ := hSc); (try obtain ⟨hSd, hSe⟩ := hSd); (try obtain ⟨hSe, hSf⟩ := hSe); go_simp; try with_reducible rfl)
      try simp only [Act.put, List.setIfInBounds_toArray, List.set_cons_zero, List.set_cons_succ]
      refine x_take (i := 3) (oi := { dst := some 92, op := Op.move (Operand.tmp 10), type := 3, pos := "ref.go:135", after := #[], guard := none }) (v := ?_) rfl (by kernel_rfl) (by kernel_rfl) (by kernel_rfl) (by kernel_rfl) (by kernel_rfl) (fun _ _ _ h => h) (Or.inl ⟨rfl, ?_⟩) (by assumption) ?_
      rotate_left
      · (intro w hSw; (try dsimp only at hSw); (try obtain ⟨hSa, hSb⟩ := hSw); (try obtain ⟨hSb, hSc⟩ := hSb); (try obtain ⟨hSc, hSd⟩ := hSc); (try obtain ⟨hSd, hSe⟩ := hSd); (try obtain ⟨hSe, hSf⟩ := hSe); go_simp; try with_reducible rfl)
      try simp only [Act.put, List.setIfInBounds_toArray, List.set_cons_zero, List.set_cons_succ]
      refine x_take (i := 4) (oi := { dst := some 93, op := Op.move (Operand.tmp 10), type := 3, pos := "ref.go:135", after := #[], guard := none }) (v := ?_) rfl (by kernel_rfl) (by kernel_rfl) (by kernel_rfl) (by kernel_rfl) (by kernel_rfl) (fun _ _ _ h => h) (Or.inl ⟨rfl, ?_⟩) (by assumption) ?_
      rotate_left
      · (intro w hSw; (try dsimp only at hSw); (try obtain ⟨hSa, hSb⟩ := hSw); (try obtain ⟨hSb, hSc⟩ := hSb); (try obtain ⟨hSc, hSd⟩ := hSc); (try obtain ⟨hSd, hSe⟩ := hSd); (try obtain ⟨hSe, hSf⟩ := hSe); go_simp; try with_reducible rfl)
      try simp only [Act.put, List.setIfInBounds_toArray, List.set_cons_zero, List.set_cons_succ]
      refine x_take (i := 5) (oi := { dst := some 94, op := Op.move (Operand.tmp 8), type := 3, pos := "ref.go:135", after := #[], guard := none }) (v := ?_) rfl (by kernel_rfl) (by kernel_rfl) (by kernel_rfl) (by kernel_rfl) (by kernel_rfl) (fun _ _ _ h => h) (Or.inl ⟨rfl, ?_⟩) (by assumption) ?_
      rotate_left
      · (intro w hSw; (try dsimp only at hSw); (try obtain ⟨hSa, hSb⟩ := hSw); (try obtain ⟨hSb, hSc⟩ := hSb); (try obtain ⟨hSc, hSd⟩ := hSc); (try obtain ⟨hSd, hSe⟩ := hSd); (try obtain ⟨hSe, hSf⟩ := hSe); go_simp; try with_reducible rfl)
      try simp only [Act.put, List.setIfInBounds_toArray, List.set_cons_zero, List.set_cons_succ]
      refine x_take (i := 6) (oi := { dst := some 95, op := Op.binOp BinOp.add 3 (Operand.tmp 93) (Operand.tmp 94) 3, type := 3, pos := "ref.go:135", after := #[{ on := 4, ground := Ground.data }, { on := 5, ground := Ground.data }], guard := none }) (v := ?_) rfl (by kernel_rfl) (by kernel_rfl) (by kernel_rfl) (by kernel_rfl) (by kernel_rfl) (fun _ _ _ h => h) (Or.inl ⟨rfl, ?_⟩) (by assumption) ?_
      rotate_left
      · (intro w hSw; (try dsimp only at hSw); (try obtain ⟨hSa, hSb⟩ := hSw); (try obtain ⟨hSb, hSc⟩ := hSb); (try obtain ⟨hSc, hSd⟩ := hSc); (try obtain ⟨hSd, hSe⟩ := hSd); (try obtain ⟨hSe, hSf⟩ := hSe); go_simp; try with_reducible rfl)
      try simp only [Act.put, List.setIfInBounds_toArray, List.set_cons_zero, List.set_cons_succ]
      refine x_take (i := 7) (oi := { dst := some 96, op := Op.slice 22 (Operand.tmp 91) (some (Operand.tmp 92)) (some (Operand.tmp 95)) none, type := 22, pos := "ref.go:135", after := #[{ on := 2, ground := Ground.data }, { on := 3, ground := Ground.data }, { on := 6, ground := Ground.data }], guard := none }) (v := ?_) rfl (by kernel_rfl) (by kernel_rfl) (by kernel_rfl) (by kernel_rfl) (by kernel_rfl) (fun _ _ _ h => h) (Or.inl ⟨rfl, ?_⟩) (by assumption) ?_
      rotate_left
      · (intro w hSw; (try dsimp only at hSw); (try obtain ⟨hSa, hSb⟩ := hSw); (try obtain ⟨hSb, hSc⟩ := hSb); (try obtain ⟨hSc, hSd⟩ := hSc); (try obtain ⟨hSd, hSe⟩ := hSd); (try obtain ⟨hSe, hSf⟩ := hSe); go_simp; try with_reducible rfl)
      try simp only [Act.put, List.setIfInBounds_toArray, List.set_cons_zero, List.set_cons_succ]
      refine x_one (i := 8) (o := { dst := some 97, op := Op.buildSlice 23 1 #[(0, Operand.tmp 96)], type := 23, pos := "ref.go:135", after := #[{ on := 7, ground := Ground.data }], guard := none }) (by kernel_rfl) rfl (fun K hK => ?_)
      go_simp
      refine hK.out _ _ ?_ (fun hHeld => ?_)
      · (try dsimp only); first | exact cell_drew q3 | exact cell_alloc (cell_drew q3) _ | exact t3
      clear hK K
      try simp only [Act.put, List.setIfInBounds_toArray, List.set_cons_zero, List.set_cons_succ]
      refine x_one (i := 9) (o := { dst := some 98, op := Op.call { callee := Callee.builtin Builtin.append, args := #[Operand.tmp 90, Operand.tmp 97], argTypes := #[23, 23] }, type := 23, pos := "ref.go:135", after := #[{ on := 1, ground := Ground.data }, { on := 8, ground := Ground.data }], guard := none }) (by kernel_rfl) rfl (fun K hK => ?_)
      (refine step_own (w1.heap.size + 1) rfl (.tmp 90) (.tmp 97) 23 22 (.slice none 0 0) 1 24 rfl Tryd.underlying23 info22 rfl (by omega) (by omega) v k 1 1 ⟨wr.heap.size, 0, none⟩ (tv g N2 M cap k) [.slice (some ⟨g, fr, none⟩) M (cap - fr)] rfl rfl rfl (news_rd (Own.new wr.drew 22 [.slice (some ⟨g, fr, none⟩) M (cap - fr)]).rd) (by simp [Value.oneCell']) ((row_kept hr (kept_drew (kept_refl wr))).alloc _) (by simp; omega) (by omega) ?_; intro v8 w8 hr8 hg8 hat8; have k8 : Kept w1 w8 := kept_grown (kept_alloc (kept_drew k5) (.cells #[.slice (some ⟨g, fr, none⟩) M (cap - fr)] 22)) ((row_kept hr (kept_drew (kept_refl wr))).alloc _) (by omega) hg8; have p6 := (o5.drew.alloc (.cells #[.slice (some ⟨g, fr, none⟩) M (cap - fr)] 22)).grown hg8 (by intro h; have := HB.out _ h.symm; omega); have t3 := p6.cell (j := 3) rfl; have f3 := p6.frozen 3; obtain ⟨A8, c8, rfl, hr9⟩ := row_form hr8)
      refine hK.out _ _ ?_ (fun hHeld => ?_)
      · (try dsimp only); first | exact cell_drew q3 | exact cell_alloc (cell_drew q3) _ | exact t3
      clear hK K
      try simp only [Act.put, List.setIfInBounds_toArray, List.set_cons_zero, List.set_cons_succ]
      refine x_take (i := 10) (oi := { dst := some 99, op := Op.fieldAddr 25 (Operand.tmp 6) 3, type := 0, pos := "ref.go:135", after := #[{ on := 0, ground := Ground.phase }, { on := 1, ground := Ground.phase }, { on := 2, ground := Ground.phase }, { on := 3, ground := Ground.phase }, { on := 4, ground := Ground.phase }, { on := 5, ground := Ground.phase }, { on := 6, ground := Ground.phase }, { on := 7, ground := Ground.phase }, { on := 8, ground := Ground.phase }, { on := 9, ground := Ground.phase }], guard := none }) (v := ?_) rfl (by kernel_rfl) (by kernel_rfl) (by kernel_rfl) (by kernel_rfl) (by kernel_rfl) (fun _ _ _ h => h) (Or.inl ⟨rfl, ?_⟩) (by assumption) ?_
      rotate_left
      · (intro w hSw; (try dsimp only at hSw); (try obtain ⟨hSa, hSb⟩ := hSw); (try obtain ⟨hSb, hSc⟩ := hSb); (try obtain ⟨hSc, hSd⟩ := hSc); (try obtain ⟨hSd, hSe⟩ := hSd); (try obtain ⟨hSe, hSf⟩ := hSe); go_simp; try with_reducible rfl)
      try simp only [Act.put, List.setIfInBounds_toArray, List.set_cons_zero, List.set_cons_succ]
      refine x_last (i := 11) (o := { dst := none, op := Op.store 23 (Operand.tmp 99) (Operand.tmp 98), type := 0, pos := "ref.go:135", after := #[{ on := 10, ground := Ground.data }, { on := 9, ground := Ground.data }, { on := 9, ground := Ground.chain }, { on := 0, ground := Ground.phase }, { on := 1, ground := Ground.phase }, { on := 2, ground := Ground.phase }, { on := 3, ground := Ground.phase }, { on := 4, ground := Ground.phase }, { on := 5, ground := Ground.phase }, { on := 6, ground := Ground.phase }, { on := 7, ground := Ground.phase }, { on := 8, ground := Ground.phase }, { on := 9, ground := Ground.phase }], guard := none }) (by kernel_rfl) rfl (by simp) (fun K hK => ?_)
      go_simp
      refine hK.out _ _ ?_
      clear hK K
      try simp only [Act.put, List.setIfInBounds_toArray, List.set_cons_zero, List.set_cons_succ]
      refine x_done (by kernel_rfl) ?_ _
      have pp := p6.set 3 (.slice A8 (k + 1) c8)
      have pr := ownsRow_setCell_below hr9 (a := ⟨w1.heap.size, 3, none⟩) (by dsimp only; omega) (.slice A8 (k + 1) c8)
      have pk := kept_set (g := w1.heap.size) (j := 3) k8 (Nat.le_refl _) (.slice A8 (k + 1) c8)
      have etv : tv g N2 M cap k ++ [.slice (some ⟨g, fr, none⟩) M (cap - fr)] = tv g N2 M cap (k + 1) := by rw [tv_succ, HR1.out.2.1, HR1.out.1]
      rw [etv] at pr
      clear hr8 hr9 k8 p6 t3 f3 hg8 hat8 etv
      go_wp2_with fail
      go_roundg (N - 1 - (k + 1))
      case rel => exact ⟨k + 1, .slice A8 (k + 1) c8, by omega, rfl, by go_num, pp, pr, pk⟩
      case measure => omega
    · have : k = N - 1 := by omega
      subst this
      have dk : decide (((N - 1 : Nat) : Int) < (N : Int) - 1) = false := decide_eq_false (by omega)
      obtain ⟨A8, c8, rfl, hr9⟩ := row_form hr
      have E0 := HE.out.1; have E1 := HE.out.2
      have hz := HZ.out
      obtain ⟨t, ht⟩ : ∃ t, t = ofNums l := ⟨_, rfl⟩
      have T := winT l hn' bn N M P n N2 E0 E1 hz.1 (by rw [hz.2.1, hz.2.2.1]) hz.2.2.2 HN.out E6.out HN2.out hN1
      rw [← ht] at T
      obtain ⟨t1, t2, t3, t4, t5, t6⟩ := T
      have ow := og.kept k5
      have RA : Rd wr (some ⟨g, 2, none⟩) (ints t.lv) := by rw [t3]; exact ow.win 2 N (by rw [HN.out, E6.out]; omega)
      have rv : RV wr (tv g N2 M cap (N - 1)) t.tb := ⟨by rw [tv_length, t5], fun j hj => by
        rw [t5] at hj
        obtain ⟨e2, e3, e4⟩ := t6 j hj
        refine ⟨some ⟨g, N2 + j * M, none⟩, cap - (N2 + j * M), ?_, ?_, by rw [e3]; omega⟩
        · unfold tv
          rw [List.getElem?_map, List.getElem?_range hj, e3]
          rfl
        · rw [e2]; exact ow.win _ M (by rw [HN.out]; exact e4)⟩
      have RTT : RT wr A8 t.tb := rt_of (row_rd hr9) rv
      have C9 : ∀ w', Kept wr w' → Calls Tryd.prog 9 #[.agg #[.int .i64 (hn' : Int), .int .i64 (bn : Int), sl, .slice A8 (N - 1) c8]] w' fun e w'' => e = .returned (.bool (validT t)) ∧ Kept w' w'' := fun w' k => by
        have : Calls Tryd.prog 9 #[trV t (some ⟨g, 2, none⟩) (cap - 2) A8 c8] w' fun e w'' => e = .returned (.bool (validT t)) ∧ Kept w' w'' := rvalid9_any t.h t.b (some ⟨g, 2, none⟩) (cap - 2) t.lv A8 c8 t.tb w' (RA.kept k) (RTT.kept k) (by rw [t4]; omega) (by rw [t5]; omega)
        unfold trV at this
        rw [t1, t2, t4, t5, ← HSL.out] at this
        exact this
      have HC9 := Lib.hid C9
      obtain ⟨V, hV⟩ : ∃ V, V = validT t := ⟨_, rfl⟩
      rw [← hV] at HC9
      have HF := Lib.hid (And.intro ht (And.intro t1 (And.intro t2 (And.intro t4 (And.intro t5 (And.intro hV rv))))))
      have a5 := a1.kept k5
      have e0 := a5.cell (j := 0) rfl; have e1 := a5.cell (j := 1) rfl; have e2 := a5.cell (j := 2) rfl; have e3 := a5.cell (j := 3) rfl
      clear C9 RTT RA rv t1 t2 t3 t4 t5 t6 ht hV E0 E1 hz ow
      have hsl1 := HSL.out
      subst hsl1
      clear HSL
      go_upto_region 14 with (fail)
      refine region_x (fun w' => w'.cell? ⟨w1.heap.size, 0, none⟩ = some (.int .i64 (hn' : Int)) ∧ w'.cell? ⟨w1.heap.size, 1, none⟩ = some (.int .i64 (bn : Int)) ∧ w'.cell? ⟨w1.heap.size, 2, none⟩ = some (.slice (some ⟨g, 2, none⟩) N (cap - 2)) ∧ w'.cell? ⟨w1.heap.size, 3, none⟩ = some (.slice A8 (N - 1) c8)) [] (by kernel_rfl) ?_ (fun hHeld => ?_)
      · exact ⟨cell_drew q0, cell_drew q1, cell_drew q2, cell_drew q3⟩
      refine x_take (i := 0) (oi := { dst := some 100, op := Op.load 25 (Operand.tmp 6), type := 25, pos := "ref.go:137", after := #[], guard := none }) (v := ?_) rfl (by kernel_rfl) (by kernel_rfl) (by kernel_rfl) (by kernel_rfl) (by kernel_rfl) (fun _ _ _ h => h) (Or.inl ⟨rfl, ?_⟩) (by assumption) ?_
      rotate_left
      · (intro w hSw; (try dsimp only at hSw); (try obtain ⟨hSa, hSb⟩ := hSw); (try obtain ⟨hSb, hSc⟩ := hSb); (try obtain ⟨hSc, hSd⟩ := hSc); (try obtain ⟨hSd, hSe⟩ := hSd); (try obtain ⟨hSe, hSf⟩ := hSe); go_simp; try with_reducible rfl)
      try simp only [Act.put, List.setIfInBounds_toArray, List.set_cons_zero, List.set_cons_succ]
      refine x_take (i := 1) (oi := { dst := some 101, op := Op.load 25 (Operand.tmp 6), type := 25, pos := "ref.go:137", after := #[], guard := none }) (v := ?_) rfl (by kernel_rfl) (by kernel_rfl) (by kernel_rfl) (by kernel_rfl) (by kernel_rfl) (fun _ _ _ h => h) (Or.inl ⟨rfl, ?_⟩) (by assumption) ?_
      rotate_left
      · (intro w hSw; (try dsimp only at hSw); (try obtain ⟨hSa, hSb⟩ := hSw); (try obtain ⟨hSb, hSc⟩ := hSb); (try obtain ⟨hSc, hSd⟩ := hSc); (try obtain ⟨hSd, hSe⟩ := hSd); (try obtain ⟨hSe, hSf⟩ := hSe); go_simp; try with_reducible rfl)
      try simp only [Act.put, List.setIfInBounds_toArray, List.set_cons_zero, List.set_cons_succ]
      refine x_one (i := 2) (o := { dst := some 102, op := Op.call { callee := Callee.value (Operand.func 9), args := #[Operand.tmp 101], argTypes := #[25] }, type := 4, pos := "ref.go:137", after := #[{ on := 1, ground := Ground.data }], guard := none }) (by kernel_rfl) rfl (fun K hK => ?_)
      (go_simp; go_at_call 9; (with_reducible refine (HC9.out _ (kept_drew (kept_refl _))).mono ?_); rintro e w50 ⟨rfl, k9⟩; have KK9 : Kept wr w50 := kept_trans (kept_drew (kept_refl _)) k9; have t0 := kept_cell KK9 q0; have t1 := kept_cell KK9 q1; have t2 := kept_cell KK9 q2; have t3 := kept_cell KK9 q3; have a9 := a5.kept KK9; have e0 := a9.cell (j := 0) rfl; have e1 := a9.cell (j := 1) rfl; have e2 := a9.cell (j := 2) rfl; have e3 := a9.cell (j := 3) rfl; have f0 := a9.frozen 0; have f1 := a9.frozen 1; have f2 := a9.frozen 2; have f3 := a9.frozen 3; try dsimp only)
      refine hK.out _ _ ?_ (fun hHeld => ?_)
      · (try dsimp only); first | exact ⟨cell_drew q0, cell_drew q1, cell_drew q2, cell_drew q3⟩ | exact ⟨u0, u1, u2, u3⟩ | exact ⟨t0, t1, t2, t3⟩
      clear hK K
      try simp only [Act.put, List.setIfInBounds_toArray, List.set_cons_zero, List.set_cons_succ]
      refine x_one (i := 3) (o := { dst := none, op := Op.store 25 (Operand.tmp 2) (Operand.tmp 100), type := 0, pos := "ref.go:137", after := #[{ on := 0, ground := Ground.data }, { on := 2, ground := Ground.chain }, { on := 0, ground := Ground.phase }, { on := 1, ground := Ground.textOnly Departure.lateStores }, { on := 2, ground := Ground.textOnly Departure.lateStoresUnsure }], guard := none }) (by kernel_rfl) rfl (fun K hK => ?_)
      (have o9 := (o5.kept KK9).set4 (g := w.heap.size) (by omega) (.int .i64 (hn' : Int)) (.int .i64 (bn : Int)) (.slice (some ⟨g, 2, none⟩) N (cap - 2)) (.slice A8 (N - 1) c8); unfold set4 at o9; have u0 := o9.cell (j := 0) rfl; have u1 := o9.cell (j := 1) rfl; have u2 := o9.cell (j := 2) rfl; have u3 := o9.cell (j := 3) rfl; go_simp)
      refine hK.out _ _ ?_ (fun hHeld => ?_)
      · (try dsimp only); first | exact ⟨cell_drew q0, cell_drew q1, cell_drew q2, cell_drew q3⟩ | exact ⟨u0, u1, u2, u3⟩ | exact ⟨t0, t1, t2, t3⟩
      clear hK K
      try simp only [Act.put, List.setIfInBounds_toArray, List.set_cons_zero, List.set_cons_succ]
      refine x_take (i := 4) (oi := { dst := some 3, op := Op.assign (Operand.tmp 102), type := 4, pos := "ref.go:137", after := #[{ on := 2, ground := Ground.data }, { on := 3, ground := Ground.chain }, { on := 0, ground := Ground.phase }, { on := 1, ground := Ground.phase }, { on := 2, ground := Ground.phase }, { on := 3, ground := Ground.phase }], guard := none }) (v := ?_) rfl (by kernel_rfl) (by kernel_rfl) (by kernel_rfl) (by kernel_rfl) (by kernel_rfl) (fun _ _ _ h => h) (Or.inl ⟨rfl, ?_⟩) (by assumption) ?_
      rotate_left
      · (intro w hSw; (try dsimp only at hSw); (try obtain ⟨hSa, hSb⟩ := hSw); (try obtain ⟨hSb, hSc⟩ := hSb); (try obtain ⟨hSc, hSd⟩ := hSc); (try obtain ⟨hSd, hSe⟩ := hSd); (try obtain ⟨hSe, hSf⟩ := hSe); go_simp; try with_reducible rfl)
      try simp only [Act.put, List.setIfInBounds_toArray, List.set_cons_zero, List.set_cons_succ]
      refine x_done (by kernel_rfl) ?_ _
      have o3 := own_set4 a9 (.int .i64 (hn' : Int)) (.int .i64 (bn : Int)) (.slice (some ⟨g, 2, none⟩) N (cap - 2)) (.slice A8 (N - 1) c8)
      have pk := kept_set4 (kept_trans kw (kept_trans k5 KK9)) (Nat.le_refl _) (.int .i64 (hn' : Int)) (.int .i64 (bn : Int)) (.slice (some ⟨g, 2, none⟩) N (cap - 2)) (.slice A8 (N - 1) c8)
      have pr := row_set4 (row_kept hr9 KK9) (g := w.heap.size) (by omega) (.int .i64 (hn' : Int)) (.int .i64 (bn : Int)) (.slice (some ⟨g, 2, none⟩) N (cap - 2)) (.slice A8 (N - 1) c8)
      have pg := ((og.kept k5).kept KK9).set4 (g := w.heap.size) (by have := hg; simp at this; omega) (.int .i64 (hn' : Int)) (.int .i64 (bn : Int)) (.slice (some ⟨g, 2, none⟩) N (cap - 2)) (.slice A8 (N - 1) c8)
      unfold set4 at o3 pk pr pg
      obtain ⟨W2, hW2⟩ : ∃ W2, W2 = (((w50.setCell ⟨w.heap.size, 0, none⟩ (.int .i64 (hn' : Int))).setCell ⟨w.heap.size, 1, none⟩ (.int .i64 (bn : Int))).setCell ⟨w.heap.size, 2, none⟩ (.slice (some ⟨g, 2, none⟩) N (cap - 2))).setCell ⟨w.heap.size, 3, none⟩ (.slice A8 (N - 1) c8) := ⟨_, rfl⟩
      rw [← hW2] at pk o3 pr pg ⊢
      clear hW2 e0 e1 e2 e3 q0 q1 q2 q3 f0 f1 f2 f3 t0 t1 t2 t3
      have q0 := o3.cell (j := 0) rfl; have q1 := o3.cell (j := 1) rfl; have q2 := o3.cell (j := 2) rfl; have q3 := o3.cell (j := 3) rfl
      go_wp2_with fail
      refine bodyPost_ret (v := .tuple #[.agg #[.int .i64 (hn' : Int), .int .i64 (bn : Int), .slice (some ⟨g, 2, none⟩) N (cap - 2), .slice A8 (N - 1) c8], .bool V]) (by simp [results, Tryd.results12, go_sem, q0, q1, q2, q3]) rfl ?_
      obtain ⟨ht, t1, t2, t4, t5, hV, rv⟩ := HF.out
      have hp3 : parseR s.data.toList = if validT t = true then some t else none := by
        rw [HP.out, if_neg (by rw [E6.out]; simp), ht]
      cases hVt : validT t with
      | true =>
        rw [hVt] at hp3 hV
        subst hV
        have E0 := HE.out.1; have E1 := HE.out.2
        have hz := HZ.out
        have T := winT l hn' bn N M P n N2 E0 E1 hz.1 (by rw [hz.2.1, hz.2.2.1]) hz.2.2.2 HN.out E6.out HN2.out hN1
        rw [← ht] at T
        obtain ⟨_, _, t3, _, _, t6⟩ := T
        refine rp_some (t := t) (A := some ⟨g, 2, none⟩) (c := cap - 2) (T := A8) (d := c8) hp3 (by unfold trV; rw [t1, t2, t4, t5]) (by rw [t3]; exact pg.win 2 N (by rw [HN.out, E6.out]; omega)) (rt_of (row_rd pr) ⟨by rw [tv_length, t5], fun j hj => ?_⟩) pk
        rw [t5] at hj
        obtain ⟨e2, e3, e4⟩ := t6 j hj
        refine ⟨some ⟨g, N2 + j * M, none⟩, cap - (N2 + j * M), ?_, ?_, by rw [e3]; omega⟩
        · unfold tv
          rw [List.getElem?_map, List.getElem?_range hj, e3]
          rfl
        · rw [e2]; exact pg.win _ M (by rw [HN.out]; exact e4)
      | false =>
        rw [hVt] at hp3 hV
        subst hV
        exact rp_none hp3 rfl pk
theorem rparse12_any (s : ByteArray) (hs : s.size ≤ 41000) (w : World) : Calls Tryd.prog 12 #[.string s] w (RParsePost s w) := by
  cases h : readN s.data.toList 0 0 with
  | none => exact rparse12_none s hs w h
  | some out =>
    have hl : out.length ≤ 41001 := by
      have h1 := readN_iff.1 h
      have h2 : ∀ l : List Nat, l ≠ [] → l.length ≤ (textN l).length := by
        intro l
        induction l with
        | nil => intro h; exact absurd rfl h
        | cons n l ih =>
          intro _
          have hd : 1 ≤ (dig2 n).length := by unfold dig2; split <;> simp
          by_cases hn : l = []
          · subst hn; simpa [textN] using hd
          · rw [textN_cons n hn]
            have := ih hn
            simp only [List.length_append, List.length_cons]
            omega
      have h3 := h2 out h1.1
      rw [← h1.2.2] at h3
      simp at h3
      omega
    by_cases hb : 40000 < s.size ∨ out.length < 2 ∨ 6 < ia (natI out) 0 ∨ ia (natI out) 1 < 1 ∨ 6 < ia (natI out) 1
    · exact rparse12_bad s hs w out h hl hb
    · exact rparse12_ok s (by omega) w out h hl (by omega) (by omega) (by omega) (by omega)
end Go.Proofs.YtikfeemmjfoffaaDoor
