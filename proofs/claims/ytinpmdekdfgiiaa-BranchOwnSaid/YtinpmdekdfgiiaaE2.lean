/- Slim: the program whose nodes are in the opposite order. -/
import Derived.Test.YtinpmdekdfgiiaaE1
import Derived.Test.YtinpmdekdfgiiaaLib5
set_option linter.unusedVariables false
set_option linter.unusedSimpArgs false
namespace Go.Proofs.Ytinpmdekdfgiiaa
open Go.RowKit

theorem info48 : (Try.prog.info? 48).map (fun i => (i.zero, i.size, i.bytes)) = some (some (.agg #[.int .i64 0, .int .i64 0, .int .i64 0]), 3, 24) := by kernel_rfl
/-- A branching program that the call has made. -/
def BrIs (n s : Int) (l : List Nd) (w : World) (v : Value) (w' : World) : Prop :=
  ∃ A c, v = .agg #[.int .i64 n, .int .i64 s, .slice A l.length c] ∧ w'.ownsRow w.heap.size 48 3 (.slice A l.length c) l.length (ndCells l) ∧ Kept w w'
def BrPost (n s : Int) (l : List Nd) (w : World) (e : Ending) (w' : World) : Prop := ∃ v, e = .returned v ∧ BrIs n s l w v w'
theorem ndCells_snoc (l : List Nd) (n : Nd) : ndCells l ++ [.int .i64 n.v, .int .i64 n.z, .int .i64 n.o] = ndCells (l ++ [n]) := by simp [ndCells]
theorem one_nds (l : List Nd) : ∀ u ∈ ndCells l, u.oneCell' = true := by
  intro u hu
  obtain ⟨x, _, hx⟩ := List.mem_flatMap.1 hu
  simp at hx
  rcases hx with rfl | rfl | rfl <;> rfl

set_option maxRecDepth 100000 in
set_option maxHeartbeats 1000000 in
theorem turned_any (n s : Int) (A : Option Addr) (m c : Nat) (ns : List Nd) (w : World) (hr : RN w A ns) (hmn : m = ns.length) (hm : ns.length ≤ 20000) (hs : s < ns.length) (hs2 : -2 ≤ s)
    (hz : ∀ k, k < ns.length → -2 ≤ nz ns k ∧ nz ns k < ns.length ∧ -2 ≤ no ns k ∧ no ns k < ns.length) :
    Calls Try.prog 80 #[.int .i64 n, .int .i64 s, .slice A m c] w (BrPost n (tn ns.length s) (tnodes ns) w) := by
  subst hmn
  have HZ := Lib.hid hz; clear hz
  have m0 : (0 : Int) ≤ (ns.length : Int) := by omega
  have a0 := (Own.new w 22 [.slice A ns.length c]).alloc (.cells #[.int .i64 0, .int .i64 0, .slice none 0 0] 24)
  have q0 := a0.cell (j := 0) rfl
  have HS := Lib.hid hs; have HS2 := Lib.hid hs2; clear hs hs2
  go_enter Try.func80, Try.ntmps80
  go_wp2_with fail
  refine (at94_any s ns.length c _ A _ q0 HS.out HS2.out (by omega)).mono ?_
  rintro e w1 ⟨rfl, rfl⟩
  obtain ⟨ts, hts⟩ : ∃ x, x = tn ns.length s := ⟨_, rfl⟩
  rw [← hts]
  have HTS := Lib.hid hts; clear hts
  go_wp2_with fail
  clear q0
  go_loopg [9] ns.length (fun g s9 wr => ∃ (k : Nat) (v : Value), k ≤ ns.length ∧ g = ns.length - k ∧ s9 = .int .i64 ((ns.length : Int) - 1 - k) ∧ Own wr (w.heap.size + 2) 24 [.int .i64 n, .int .i64 ts, v] ∧ wr.ownsRow (w.heap.size + 3) 48 3 v k (ndCells ((List.range k).map (tnode ns))) ∧ Own wr w.heap.size 22 [.slice A ns.length c] ∧ Own wr (w.heap.size + 1) 24 [.int .i64 0, .int .i64 0, .slice none 0 0] ∧ Kept w wr)
  case atStart => exact ⟨0, .slice none 0 0, by omega, by omega, by simp, by simpa using Own.new ((w.alloc (.cells #[.slice A ns.length c] 22)).alloc (.cells #[.int .i64 0, .int .i64 0, .slice none 0 0] 24)) 24 [.int .i64 n, .int .i64 ts, .slice none 0 0], World.ownsRow_nil _ _ _ _, a0.alloc _, by simpa using (Own.new (w.alloc (.cells #[.slice A ns.length c] 22)) 24 [.int .i64 0, .int .i64 0, .slice none 0 0]).alloc (.cells #[.int .i64 n, .int .i64 ts, .slice none 0 0] 24), kept_alloc (kept_alloc (kept_alloc (kept_refl _) _) _) _⟩
  case round =>
    clear a0
    obtain ⟨k, v, hk, rfl, rfl, o2, hrow, o0, o1, K⟩ := hrel
    by_cases hlt : k < ns.length
    · obtain ⟨b, off, rfl, hcs⟩ := hr.at_ (k := ns.length - 1 - k) (by omega)
      obtain ⟨d0, d1, d2⟩ := hcs (ns.length - 1 - k) (by omega)
      replace d0 := kept_cell K d0
      replace d1 := kept_cell K d1
      replace d2 := kept_cell K d2
      clear hcs
      have q0 := o0.cell (j := 0) rfl
      have q1 := o2.cell (j := 2) rfl
      have i0 : (0 : Int) ≤ (ns.length : Int) - 1 - k := by omega
      have i1 : (ns.length : Int) - 1 - k < ns.length := by omega
      have i2 : ((ns.length : Int) - 1 - k).toNat = ns.length - 1 - k := by omega
      go_wp2_with fail
      obtain ⟨W, hW⟩ : ∃ W, W = wr.alloc (.cells #[.int .i64 (nv ns (ns.length - 1 - k)), .int .i64 (nz ns (ns.length - 1 - k)), .int .i64 (no ns (ns.length - 1 - k))] 48) := ⟨_, rfl⟩
      have KW : Kept wr W := by rw [hW]; exact kept_alloc (kept_refl _) _
      have oN : Own W wr.heap.size 48 [.int .i64 (nv ns (ns.length - 1 - k)), .int .i64 (nz ns (ns.length - 1 - k)), .int .i64 (no ns (ns.length - 1 - k))] := by rw [hW]; exact Own.new _ _ _
      rw [← hW]
      have n0 := oN.cell (j := 0) rfl
      have n1 := oN.cell (j := 1) rfl
      have n2 := oN.cell (j := 2) rfl
      replace q1 := kept_cell KW q1
      replace q0 := kept_cell KW q0
      have hrow0 := hrow
      replace hrow := row_kept hrow KW
      replace o0 := o0.kept KW
      replace o1 := o1.kept KW
      replace o2 := o2.kept KW
      replace K := kept_trans K KW
      have sz : w.heap.size + 3 ≤ W.heap.size := by have := o2.lt; have := oN.lt; have := KW.size; omega
      have hz := HZ.out (ns.length - 1 - k) (by omega)
      have g1 := at94_any (nz ns (ns.length - 1 - k)) ns.length c w.heap.size _ W.drew (cell_drew q0) hz.2.1 hz.1 (by omega)
      have g2 := at94_any (no ns (ns.length - 1 - k)) ns.length c w.heap.size _ W.drew (cell_drew q0) hz.2.2.2 hz.2.2.1 (by omega)
      have G1 := Lib.hid g1; clear g1
      have G2 := Lib.hid g2; clear g2 hz
      have hkb : k ≤ 20000 := by omega
      have KK := K
      have hvb : ∀ b, v.ownBlock = some b → w.heap.size + 3 ≤ b ∧ b < wr.heap.size := fun b hb => hrow0.lt b hb
      obtain ⟨nn, hnn⟩ : ∃ x, x = tnode ns k := ⟨_, rfl⟩
      have hn1 : nv ns (ns.length - 1 - k) = nn.v := by rw [hnn]; rfl
      have hn2 : tn ns.length (nz ns (ns.length - 1 - k)) = nn.z := by rw [hnn]; rfl
      have hn3 : tn ns.length (no ns (ns.length - 1 - k)) = nn.o := by rw [hnn]; rfl
      have HNN := Lib.hid hnn; clear hnn
      rw [hn2] at G1
      rw [hn3] at G2
      rw [hn1] at oN n0
      clear d0 d1 d2 hW KW i0 i1 i2 hn1 hn2 hn3
      refine region_x (fun w' => w'.cell? ⟨wr.heap.size, 0, none⟩ = some (.int .i64 nn.v) ∧ w'.cell? ⟨wr.heap.size, 1, none⟩ = some (.int .i64 (nz ns (ns.length - 1 - k))) ∧ w'.cell? ⟨wr.heap.size, 2, none⟩ = some (.int .i64 (no ns (ns.length - 1 - k))) ∧ w'.cell? ⟨w.heap.size + 2, 2, none⟩ = some v) [16] (by kernel_rfl) ?_ (fun hHeld => ?_)
      · exact ⟨n0, n1, n2, q1⟩
      refine x_take (i := 0) (oi := { dst := some 28, op := Op.fieldAddr 24 (Operand.tmp 8) 2, type := 0, pos := "branch.go:144", after := #[], guard := none }) (v := ?_) rfl (by kernel_rfl) (by kernel_rfl) (by kernel_rfl) (by kernel_rfl) (by kernel_rfl) (fun _ _ _ h => h) (Or.inl ⟨rfl, ?_⟩) (by assumption) ?_
      rotate_left
      · (intro w hSw; (try dsimp only at hSw); (try obtain ⟨hSa, hSb⟩ := hSw); (try obtain ⟨hSb, hSc⟩ := hSb); (try obtain ⟨hSc, hSd⟩ := hSc); (try obtain ⟨hSd, hSe⟩ := hSd); (try obtain ⟨hSe, hSf⟩ := hSe); go_simp; try with_reducible rfl)
      try simp only [Act.put, List.setIfInBounds_toArray, List.set_cons_zero, List.set_cons_succ]
      refine x_take (i := 1) (oi := { dst := some 29, op := Op.load 22 (Operand.tmp 28), type := 22, pos := "branch.go:144", after := #[{ on := 0, ground := Ground.data }], guard := none }) (v := ?_) rfl (by kernel_rfl) (by kernel_rfl) (by kernel_rfl) (by kernel_rfl) (by kernel_rfl) (fun _ _ _ h => h) (Or.inl ⟨rfl, ?_⟩) (by assumption) ?_
      rotate_left
      · (intro w hSw; (try dsimp only at hSw); (try obtain ⟨hSa, hSb⟩ := hSw); (try obtain ⟨hSb, hSc⟩ := hSb); (try obtain ⟨hSc, hSd⟩ := hSc); (try obtain ⟨hSd, hSe⟩ := hSd); (try obtain ⟨hSe, hSf⟩ := hSe); go_simp; try with_reducible rfl)
      try simp only [Act.put, List.setIfInBounds_toArray, List.set_cons_zero, List.set_cons_succ]
      refine x_take (i := 2) (oi := { dst := some 30, op := Op.fieldAddr 48 (Operand.tmp 10) 0, type := 0, pos := "branch.go:144", after := #[], guard := none }) (v := ?_) rfl (by kernel_rfl) (by kernel_rfl) (by kernel_rfl) (by kernel_rfl) (by kernel_rfl) (fun _ _ _ h => h) (Or.inl ⟨rfl, ?_⟩) (by assumption) ?_
      rotate_left
      · (intro w hSw; (try dsimp only at hSw); (try obtain ⟨hSa, hSb⟩ := hSw); (try obtain ⟨hSb, hSc⟩ := hSb); (try obtain ⟨hSc, hSd⟩ := hSc); (try obtain ⟨hSd, hSe⟩ := hSd); (try obtain ⟨hSe, hSf⟩ := hSe); go_simp; try with_reducible rfl)
      try simp only [Act.put, List.setIfInBounds_toArray, List.set_cons_zero, List.set_cons_succ]
      refine x_take (i := 3) (oi := { dst := some 31, op := Op.load 3 (Operand.tmp 30), type := 3, pos := "branch.go:144", after := #[{ on := 2, ground := Ground.data }], guard := none }) (v := ?_) rfl (by kernel_rfl) (by kernel_rfl) (by kernel_rfl) (by kernel_rfl) (by kernel_rfl) (fun _ _ _ h => h) (Or.inl ⟨rfl, ?_⟩) (by assumption) ?_
      rotate_left
      · (intro w hSw; (try dsimp only at hSw); (try obtain ⟨hSa, hSb⟩ := hSw); (try obtain ⟨hSb, hSc⟩ := hSb); (try obtain ⟨hSc, hSd⟩ := hSc); (try obtain ⟨hSd, hSe⟩ := hSd); (try obtain ⟨hSe, hSf⟩ := hSe); go_simp; try with_reducible rfl)
      try simp only [Act.put, List.setIfInBounds_toArray, List.set_cons_zero, List.set_cons_succ]
      refine x_take (i := 4) (oi := { dst := some 32, op := Op.move (Operand.tmp 7), type := 94, pos := "branch.go:144", after := #[], guard := none }) (v := ?_) rfl (by kernel_rfl) (by kernel_rfl) (by kernel_rfl) (by kernel_rfl) (by kernel_rfl) (fun _ _ _ h => h) (Or.inl ⟨rfl, ?_⟩) (by assumption) ?_
      rotate_left
      · (intro w hSw; (try dsimp only at hSw); (try obtain ⟨hSa, hSb⟩ := hSw); (try obtain ⟨hSb, hSc⟩ := hSb); (try obtain ⟨hSc, hSd⟩ := hSc); (try obtain ⟨hSd, hSe⟩ := hSd); (try obtain ⟨hSe, hSf⟩ := hSe); go_simp; try with_reducible rfl)
      try simp only [Act.put, List.setIfInBounds_toArray, List.set_cons_zero, List.set_cons_succ]
      refine x_take (i := 5) (oi := { dst := some 33, op := Op.fieldAddr 48 (Operand.tmp 10) 1, type := 0, pos := "branch.go:144", after := #[], guard := none }) (v := ?_) rfl (by kernel_rfl) (by kernel_rfl) (by kernel_rfl) (by kernel_rfl) (by kernel_rfl) (fun _ _ _ h => h) (Or.inl ⟨rfl, ?_⟩) (by assumption) ?_
      rotate_left
      · (intro w hSw; (try dsimp only at hSw); (try obtain ⟨hSa, hSb⟩ := hSw); (try obtain ⟨hSb, hSc⟩ := hSb); (try obtain ⟨hSc, hSd⟩ := hSc); (try obtain ⟨hSd, hSe⟩ := hSd); (try obtain ⟨hSe, hSf⟩ := hSe); go_simp; try with_reducible rfl)
      try simp only [Act.put, List.setIfInBounds_toArray, List.set_cons_zero, List.set_cons_succ]
      refine x_take (i := 6) (oi := { dst := some 34, op := Op.load 3 (Operand.tmp 33), type := 3, pos := "branch.go:144", after := #[{ on := 5, ground := Ground.data }], guard := none }) (v := ?_) rfl (by kernel_rfl) (by kernel_rfl) (by kernel_rfl) (by kernel_rfl) (by kernel_rfl) (fun _ _ _ h => h) (Or.inl ⟨rfl, ?_⟩) (by assumption) ?_
      rotate_left
      · (intro w hSw; (try dsimp only at hSw); (try obtain ⟨hSa, hSb⟩ := hSw); (try obtain ⟨hSb, hSc⟩ := hSb); (try obtain ⟨hSc, hSd⟩ := hSc); (try obtain ⟨hSd, hSe⟩ := hSd); (try obtain ⟨hSe, hSf⟩ := hSe); go_simp; try with_reducible rfl)
      try simp only [Act.put, List.setIfInBounds_toArray, List.set_cons_zero, List.set_cons_succ]
      refine x_take (i := 8) (oi := { dst := some 36, op := Op.move (Operand.tmp 7), type := 94, pos := "branch.go:144", after := #[], guard := none }) (v := ?_) rfl (by kernel_rfl) (by kernel_rfl) (by kernel_rfl) (by kernel_rfl) (by kernel_rfl) (fun _ _ _ h => h) (Or.inl ⟨rfl, ?_⟩) (by assumption) ?_
      rotate_left
      · (intro w hSw; (try dsimp only at hSw); (try obtain ⟨hSa, hSb⟩ := hSw); (try obtain ⟨hSb, hSc⟩ := hSb); (try obtain ⟨hSc, hSd⟩ := hSc); (try obtain ⟨hSd, hSe⟩ := hSd); (try obtain ⟨hSe, hSf⟩ := hSe); go_simp; try with_reducible rfl)
      try simp only [Act.put, List.setIfInBounds_toArray, List.set_cons_zero, List.set_cons_succ]
      refine x_take (i := 9) (oi := { dst := some 37, op := Op.fieldAddr 48 (Operand.tmp 10) 2, type := 0, pos := "branch.go:144", after := #[], guard := none }) (v := ?_) rfl (by kernel_rfl) (by kernel_rfl) (by kernel_rfl) (by kernel_rfl) (by kernel_rfl) (fun _ _ _ h => h) (Or.inl ⟨rfl, ?_⟩) (by assumption) ?_
      rotate_left
      · (intro w hSw; (try dsimp only at hSw); (try obtain ⟨hSa, hSb⟩ := hSw); (try obtain ⟨hSb, hSc⟩ := hSb); (try obtain ⟨hSc, hSd⟩ := hSc); (try obtain ⟨hSd, hSe⟩ := hSd); (try obtain ⟨hSe, hSf⟩ := hSe); go_simp; try with_reducible rfl)
      try simp only [Act.put, List.setIfInBounds_toArray, List.set_cons_zero, List.set_cons_succ]
      refine x_take (i := 10) (oi := { dst := some 38, op := Op.load 3 (Operand.tmp 37), type := 3, pos := "branch.go:144", after := #[{ on := 9, ground := Ground.data }], guard := none }) (v := ?_) rfl (by kernel_rfl) (by kernel_rfl) (by kernel_rfl) (by kernel_rfl) (by kernel_rfl) (fun _ _ _ h => h) (Or.inl ⟨rfl, ?_⟩) (by assumption) ?_
      rotate_left
      · (intro w hSw; (try dsimp only at hSw); (try obtain ⟨hSa, hSb⟩ := hSw); (try obtain ⟨hSb, hSc⟩ := hSb); (try obtain ⟨hSc, hSd⟩ := hSc); (try obtain ⟨hSd, hSe⟩ := hSd); (try obtain ⟨hSe, hSf⟩ := hSe); go_simp; try with_reducible rfl)
      try simp only [Act.put, List.setIfInBounds_toArray, List.set_cons_zero, List.set_cons_succ]
      refine x_one (i := 7) (o := { dst := some 35, op := Op.call { callee := Callee.value (Operand.tmp 32), args := #[Operand.tmp 34], argTypes := #[3] }, type := 3, pos := "branch.go:144", after := #[{ on := 4, ground := Ground.data }, { on := 6, ground := Ground.data }], guard := none }) (by kernel_rfl) rfl (fun K hK => ?_)
      (go_simp; go_at_call 94; refine G1.out.mono ?_; rintro e w5 ⟨rfl, rfl⟩; try dsimp only)
      refine hK.out _ _ ?_ (fun hHeld => ?_)
      · (try dsimp only); first | exact ⟨cell_drew n0, cell_drew n1, cell_drew n2, cell_drew q1⟩ | exact ⟨cell_alloc (cell_drew n0) _, cell_alloc (cell_drew n1) _, cell_alloc (cell_drew n2) _, cell_alloc (cell_drew q1) _⟩ | exact ⟨t0, t1, t2, t3⟩
      clear hK K
      try simp only [Act.put, List.setIfInBounds_toArray, List.set_cons_zero, List.set_cons_succ]
      refine x_one (i := 11) (o := { dst := some 39, op := Op.call { callee := Callee.value (Operand.tmp 36), args := #[Operand.tmp 38], argTypes := #[3] }, type := 3, pos := "branch.go:144", after := #[{ on := 8, ground := Ground.data }, { on := 10, ground := Ground.data }, { on := 7, ground := Ground.chain }], guard := none }) (by kernel_rfl) rfl (fun K hK => ?_)
      (go_simp; go_at_call 94; refine G2.out.mono ?_; rintro e w6 ⟨rfl, rfl⟩; try dsimp only)
      refine hK.out _ _ ?_ (fun hHeld => ?_)
      · (try dsimp only); first | exact ⟨cell_drew n0, cell_drew n1, cell_drew n2, cell_drew q1⟩ | exact ⟨cell_alloc (cell_drew n0) _, cell_alloc (cell_drew n1) _, cell_alloc (cell_drew n2) _, cell_alloc (cell_drew q1) _⟩ | exact ⟨t0, t1, t2, t3⟩
      clear hK K
      try simp only [Act.put, List.setIfInBounds_toArray, List.set_cons_zero, List.set_cons_succ]
      refine x_take (i := 12) (oi := { dst := some 40, op := Op.build 48 #[(0, Operand.tmp 31), (1, Operand.tmp 35), (2, Operand.tmp 39)], type := 48, pos := "branch.go:144", after := #[{ on := 3, ground := Ground.data }, { on := 7, ground := Ground.data }, { on := 11, ground := Ground.data }], guard := none }) (v := ?_) rfl (by kernel_rfl) (by kernel_rfl) (by kernel_rfl) (by kernel_rfl) (by kernel_rfl) (fun _ _ _ h => h) (Or.inl ⟨rfl, ?_⟩) (by assumption) ?_
      rotate_left
      · (intro w hSw; (try dsimp only at hSw); (try obtain ⟨hSa, hSb⟩ := hSw); (try obtain ⟨hSb, hSc⟩ := hSb); (try obtain ⟨hSc, hSd⟩ := hSc); (try obtain ⟨hSd, hSe⟩ := hSd); (try obtain ⟨hSe, hSf⟩ := hSe); go_simp; try with_reducible rfl)
      try simp only [Act.put, List.setIfInBounds_toArray, List.set_cons_zero, List.set_cons_succ]
      refine x_one (i := 13) (o := { dst := some 41, op := Op.buildSlice 22 1 #[(0, Operand.tmp 40)], type := 22, pos := "branch.go:144", after := #[{ on := 12, ground := Ground.data }], guard := none }) (by kernel_rfl) rfl (fun K hK => ?_)
      go_simp
      refine hK.out _ _ ?_ (fun hHeld => ?_)
      · (try dsimp only); first | exact ⟨cell_drew n0, cell_drew n1, cell_drew n2, cell_drew q1⟩ | exact ⟨cell_alloc (cell_drew n0) _, cell_alloc (cell_drew n1) _, cell_alloc (cell_drew n2) _, cell_alloc (cell_drew q1) _⟩ | exact ⟨t0, t1, t2, t3⟩
      clear hK K
      try simp only [Act.put, List.setIfInBounds_toArray, List.set_cons_zero, List.set_cons_succ]
      refine x_one (i := 14) (o := { dst := some 42, op := Op.call { callee := Callee.builtin Builtin.append, args := #[Operand.tmp 29, Operand.tmp 41], argTypes := #[22, 22] }, type := 22, pos := "branch.go:144", after := #[{ on := 1, ground := Ground.data }, { on := 13, ground := Ground.data }, { on := 11, ground := Ground.chain }], guard := none }) (by kernel_rfl) rfl (fun K hK => ?_)
      (refine step_own (w.heap.size + 3) rfl (.tmp 29) (.tmp 41) 22 48 (.agg #[.int .i64 0, .int .i64 0, .int .i64 0]) 3 24 rfl Try.underlying22 info48 rfl (by omega) (by omega) v k 1 1 ⟨W.heap.size, 0, none⟩ (ndCells ((List.range k).map (tnode ns))) [.int .i64 nn.v, .int .i64 nn.z, .int .i64 nn.o] rfl rfl rfl (news_rd (Own.new W.drew 48 [.int .i64 nn.v, .int .i64 nn.z, .int .i64 nn.o]).rd) (one_nds [nn]) ((row_kept hrow (kept_drew (kept_refl W))).alloc _) (by simp; omega) (by omega) ?_; intro v8 w8 hr8 hg8 hat8; have k8 := kept_grown (kept_alloc (kept_drew KK) (.cells #[.int .i64 nn.v, .int .i64 nn.z, .int .i64 nn.o] 48)) ((row_kept hrow (kept_drew (kept_refl W))).alloc _) (by omega) hg8; have p2 := (o2.drew.alloc (.cells #[.int .i64 nn.v, .int .i64 nn.z, .int .i64 nn.o] 48)).grown hg8 (by intro h; have := hvb _ h.symm; omega); have p0 := (o0.drew.alloc (.cells #[.int .i64 nn.v, .int .i64 nn.z, .int .i64 nn.o] 48)).grown hg8 (by intro h; have := hvb _ h.symm; omega); have p1 := (o1.drew.alloc (.cells #[.int .i64 nn.v, .int .i64 nn.z, .int .i64 nn.o] 48)).grown hg8 (by intro h; have := hvb _ h.symm; omega); have pN := (oN.drew.alloc (.cells #[.int .i64 nn.v, .int .i64 nn.z, .int .i64 nn.o] 48)).grown hg8 (by intro h; have := hvb _ h.symm; omega); have t0 := pN.cell (j := 0) rfl; have t1 := pN.cell (j := 1) rfl; have t2 := pN.cell (j := 2) rfl; have t3 := p2.cell (j := 2) rfl; have t4 := p2.frozen 2; rw [ndCells_snoc] at hr8; obtain ⟨A8, c8, rfl, hr9⟩ := row_form hr8)
      refine hK.out _ _ ?_ (fun hHeld => ?_)
      · (try dsimp only); first | exact ⟨cell_drew n0, cell_drew n1, cell_drew n2, cell_drew q1⟩ | exact ⟨cell_alloc (cell_drew n0) _, cell_alloc (cell_drew n1) _, cell_alloc (cell_drew n2) _, cell_alloc (cell_drew q1) _⟩ | exact ⟨t0, t1, t2, t3⟩
      clear hK K
      try simp only [Act.put, List.setIfInBounds_toArray, List.set_cons_zero, List.set_cons_succ]
      refine x_take (i := 15) (oi := { dst := some 43, op := Op.fieldAddr 24 (Operand.tmp 8) 2, type := 0, pos := "branch.go:144", after := #[{ on := 0, ground := Ground.phase }, { on := 1, ground := Ground.phase }, { on := 2, ground := Ground.phase }, { on := 3, ground := Ground.phase }, { on := 4, ground := Ground.phase }, { on := 5, ground := Ground.phase }, { on := 6, ground := Ground.phase }, { on := 7, ground := Ground.phase }, { on := 8, ground := Ground.phase }, { on := 9, ground := Ground.phase }, { on := 10, ground := Ground.phase }, { on := 11, ground := Ground.phase }, { on := 12, ground := Ground.phase }, { on := 13, ground := Ground.phase }, { on := 14, ground := Ground.phase }], guard := none }) (v := ?_) rfl (by kernel_rfl) (by kernel_rfl) (by kernel_rfl) (by kernel_rfl) (by kernel_rfl) (fun _ _ _ h => h) (Or.inl ⟨rfl, ?_⟩) (by assumption) ?_
      rotate_left
      · (intro w hSw; (try dsimp only at hSw); (try obtain ⟨hSa, hSb⟩ := hSw); (try obtain ⟨hSb, hSc⟩ := hSb); (try obtain ⟨hSc, hSd⟩ := hSc); (try obtain ⟨hSd, hSe⟩ := hSd); (try obtain ⟨hSe, hSf⟩ := hSe); go_simp; try with_reducible rfl)
      try simp only [Act.put, List.setIfInBounds_toArray, List.set_cons_zero, List.set_cons_succ]
      refine x_last (i := 16) (o := { dst := none, op := Op.store 22 (Operand.tmp 43) (Operand.tmp 42), type := 0, pos := "branch.go:144", after := #[{ on := 15, ground := Ground.data }, { on := 14, ground := Ground.data }, { on := 14, ground := Ground.chain }, { on := 0, ground := Ground.phase }, { on := 1, ground := Ground.phase }, { on := 2, ground := Ground.phase }, { on := 3, ground := Ground.phase }, { on := 4, ground := Ground.phase }, { on := 5, ground := Ground.phase }, { on := 6, ground := Ground.phase }, { on := 7, ground := Ground.phase }, { on := 8, ground := Ground.phase }, { on := 9, ground := Ground.phase }, { on := 10, ground := Ground.phase }, { on := 11, ground := Ground.phase }, { on := 12, ground := Ground.phase }, { on := 13, ground := Ground.phase }, { on := 14, ground := Ground.phase }], guard := none }) (by kernel_rfl) rfl (by simp) (fun K hK => ?_)
      go_simp
      refine hK.out _ _ ?_
      clear hK K
      try simp only [Act.put, List.setIfInBounds_toArray, List.set_cons_zero, List.set_cons_succ]
      refine x_done (by kernel_rfl) ?_ _
      have pp := p2.set 2 (.slice A8 (k + 1) c8)
      have po := p0.other (a := ⟨w.heap.size + 2, 2, none⟩) (by dsimp only; omega) (.slice A8 (k + 1) c8)
      have pq := p1.other (a := ⟨w.heap.size + 2, 2, none⟩) (by dsimp only; omega) (.slice A8 (k + 1) c8)
      have pr := ownsRow_setCell_below hr9 (a := ⟨w.heap.size + 2, 2, none⟩) (by dsimp only; omega) (.slice A8 (k + 1) c8)
      have pk := kept_set (g := w.heap.size + 2) (j := 2) k8 (by omega) (.slice A8 (k + 1) c8)
      rw [HNN.out] at pr
      clear hr8 hr9 k8 p2 p0 p1 pN t0 t1 t2 t3 t4 hg8 hat8
      go_wp2_with fail
      go_roundg (ns.length - (k + 1))
      case rel => exact ⟨k + 1, .slice A8 (k + 1) c8, by omega, rfl, by go_num, pp, by simpa [List.range_succ] using pr, po, pq, pk⟩
      case measure => omega
    · have : k = ns.length := by omega
      subst this
      obtain ⟨A1, c1, rfl, hrow⟩ := row_form hrow
      have q0 := o2.cell (j := 0) rfl
      have q1 := o2.cell (j := 1) rfl
      have q2 := o2.cell (j := 2) rfl
      have e0 := o1.cell (j := 0) rfl
      have e1 := o1.cell (j := 1) rfl
      have e2 := o1.cell (j := 2) rfl
      have f0 := o1.frozen 0
      have f1 := o1.frozen 1
      have f2 := o1.frozen 2
      go_wp2_with fail
      have pr := ownsRow_setCell_below (ownsRow_setCell_below (ownsRow_setCell_below hrow (a := ⟨w.heap.size + 1, 0, none⟩) (by dsimp only; omega) (.int .i64 n)) (a := ⟨w.heap.size + 1, 1, none⟩) (by dsimp only; omega) (.int .i64 ts)) (a := ⟨w.heap.size + 1, 2, none⟩) (by dsimp only; omega) (.slice A1 ns.length c1)
      have pk := kept_set (g := w.heap.size + 1) (j := 2) (kept_set (g := w.heap.size + 1) (j := 1) (kept_set (g := w.heap.size + 1) (j := 0) K (by omega) (.int .i64 n)) (by omega) (.int .i64 ts)) (by omega) (.slice A1 ns.length c1)
      have o3 := ((o1.set 0 (.int .i64 n)).set 1 (.int .i64 ts)).set 2 (.slice A1 ns.length c1)
      obtain ⟨W2, hW2⟩ : ∃ W2, W2 = ((wr.setCell ⟨w.heap.size + 1, 0, none⟩ (.int .i64 n)).setCell ⟨w.heap.size + 1, 1, none⟩ (.int .i64 ts)).setCell ⟨w.heap.size + 1, 2, none⟩ (.slice A1 ns.length c1) := ⟨_, rfl⟩
      rw [← hW2] at pr pk o3 ⊢
      clear hW2 q0 q1 q2 e0 e1 e2
      have q0 := o3.cell (j := 0) rfl
      have q1 := o3.cell (j := 1) rfl
      have q2 := o3.cell (j := 2) rfl
      exact bodyPost_ret (v := .agg #[.int .i64 n, .int .i64 ts, .slice A1 ns.length c1]) (by simp [results, Try.results80, go_sem, q0, q1, q2]) rfl ⟨_, rfl, A1, c1, by rw [tnodes_length, HTS.out], by unfold tnodes; rw [List.length_map, List.length_range]; exact pr.mono (by omega), pk⟩
end Go.Proofs.Ytinpmdekdfgiiaa
