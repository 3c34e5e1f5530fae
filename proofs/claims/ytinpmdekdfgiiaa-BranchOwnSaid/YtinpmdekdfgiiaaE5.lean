/- Slim. -/
import Derived.Test.YtinpmdekdfgiiaaE4
set_option linter.unusedVariables false
set_option linter.unusedSimpArgs false
namespace Go.Proofs.Ytinpmdekdfgiiaa
open Go.RowKit Go.Maps

theorem zero3 (w : World) : (zeroValue 3).run Try.prog w = .ok (.int .i64 0) w := by kernel_rfl
theorem under95 : Try.prog.underlying 95 = some (.map 48 3) := Try.underlying95
/-- What Slim answers for a valid program. -/
def SlimPost (n s : Int) (l : List Nd) (w : World) (e : Ending) (w' : World) : Prop :=
  ∃ v, e = .returned (.tuple #[v, .int .i64 0]) ∧ BrIs n (rstart (slS s l) (slL s l)) (rnodes (slS s l) (slL s l)) w v w'
/-- What stands fast while Slim works, and what it has made. -/
structure SlEnv (w wr : World) (k1 g : Nat) (n s : Int) (A : Option Addr) (c : Nat) (l : List Nd) (a : List Int) (ns : List Nd) (v : Value) : Prop where
  o0 : Own wr w.heap.size 24 [.int .i64 n, .int .i64 s, .slice A l.length c]
  o1 : Own wr (w.heap.size + 1) 24 [.int .i64 0, .int .i64 0, .slice none 0 0]
  oL : Own wr g 3 (ints (lv s l))
  oA : Own wr k1 3 (ints a)
  oC : Own wr (k1 + 1) 36 [.slice (some ⟨k1, 0, none⟩) l.length l.length]
  mp : ∃ D : DataW Unit, wr.ownsMap Try.prog 48 (plainElem Try.prog 3) (k1 + 2) ns.length D ∧ MapIs D ns
  row : wr.ownsRow (k1 + 3) 48 3 v ns.length (ndCells ns)
  K : Kept w wr
theorem SlEnv.kept {w wr wr' : World} {k1 g : Nat} {n s : Int} {A : Option Addr} {c : Nat} {l : List Nd} {a : List Int} {ns : List Nd} {v : Value} (h : SlEnv w wr k1 g n s A c l a ns v) (k : Kept wr wr') : SlEnv w wr' k1 g n s A c l a ns v :=
  ⟨h.o0.kept k, h.o1.kept k, h.oL.kept k, h.oA.kept k, h.oC.kept k, let ⟨D, h1, h2⟩ := h.mp; ⟨D, h1.kept (row := none) ⟨k.os, k.tape, k.output, k.size, fun i hi _ => k.block i hi⟩ (by simp), h2⟩, row_kept h.row k, kept_trans h.K k⟩
/-- A store into at. -/
theorem SlEnv.setA {w wr : World} {k1 g : Nat} {n s : Int} {A : Option Addr} {c : Nat} {l : List Nd} {a : List Int} {ns : List Nd} {v : Value} (h : SlEnv w wr k1 g n s A c l a ns v) (h1 : w.heap.size + 1 < k1) (h2 : g < k1) (j : Nat) (x : Int) : SlEnv w (wr.setCell ⟨k1, j, none⟩ (.int .i64 x)) k1 g n s A c l (a.set j x) ns v :=
  ⟨h.o0.other (by dsimp only; omega) _, h.o1.other (by dsimp only; omega) _, h.oL.other (by dsimp only; omega) _, h.oA.setInt j x, h.oC.other (by dsimp only; omega) _, let ⟨D, h1, h2⟩ := h.mp; ⟨D, h1.setCell (by dsimp only; omega) _, h2⟩, ownsRow_setCell_below h.row (by dsimp only; omega) _, kept_set h.K (by omega) _⟩

/-- A node is met for the first time. -/
theorem SlEnv.put {w W w5 w7 : World} {k1 g : Nat} {n s : Int} {A : Option Addr} {c : Nat} {l : List Nd} {a : List Int} {ns : List Nd} {v v7 : Value} {nn : Nd} (h : SlEnv w W k1 g n s A c l a ns v) (h1 : w.heap.size + 1 < k1) (h2 : g < k1)
    (hm : ∃ D : DataW Unit, w5.ownsMap Try.prog 48 (plainElem Try.prog 3) (k1 + 2) (ns.length + 1) D ∧ MapIs D (ns ++ [nn])) (hg5 : W.grownBy w5 (some (k1 + 2))) (hr7 : w7.ownsRow (k1 + 3) 48 3 v7 (ns.length + 1) (ndCells (ns ++ [nn]))) (hg7 : w5.grownBy w7 v.ownBlock) :
    SlEnv w w7 k1 g n s A c l a (ns ++ [nn]) v7 := by
  have hv : ∀ b, v.ownBlock = some b → k1 + 3 ≤ b := fun b hb => (h.row.lt b hb).1
  have N : ∀ b, b < k1 + 2 → some b ≠ some (k1 + 2) := fun b hb e => by cases e; omega
  have M : ∀ b, b < k1 + 3 → some b ≠ v.ownBlock := fun b hb e => by have := hv b e.symm; omega
  obtain ⟨D, hD1, hD2⟩ := hm
  refine ⟨(h.o0.grown hg5 (N _ (by omega))).grown hg7 (M _ (by omega)), (h.o1.grown hg5 (N _ (by omega))).grown hg7 (M _ (by omega)), (h.oL.grown hg5 (N _ (by omega))).grown hg7 (M _ (by omega)), (h.oA.grown hg5 (N _ (by omega))).grown hg7 (M _ (by omega)), (h.oC.grown hg5 (N _ (by omega))).grown hg7 (M _ (by omega)), ⟨D, ?_, hD2⟩, ?_, ?_⟩
  · rw [List.length_append]; exact hD1.kept hg7 (M _ (by omega))
  · rw [List.length_append]; exact hr7
  · have k5 := h.K.grown hg5 h.K.size (fun b hb => by cases hb; omega)
    exact k5.grown hg7 k5.size (fun b hb => by have := hv b hb; omega)

set_option maxRecDepth 100000 in
set_option maxHeartbeats 1000000 in
theorem slim_good (n s : Int) (A : Option Addr) (c : Nat) (l : List Nd) (w : World) (hr : RN w A l) (hv : validB n s l = true) :
    Calls Try.prog 40 #[.agg #[.int .i64 n, .int .i64 s, .slice A l.length c]] w (SlimPost n s l w) := by
  obtain ⟨hi0, hi1, hln, hs⟩ := valid_start hv
  have hmk := make_ints l.length (by omega)
  have hmm := @run_makeMap Try.prog
  have a0 := (Own.new w 24 [.int .i64 n, .int .i64 s, .slice A l.length c]).alloc (.cells #[.int .i64 0, .int .i64 0, .slice none 0 0] 24)
  have a1 := Own.new (w.alloc (.cells #[.int .i64 n, .int .i64 s, .slice A l.length c] 24)) 24 [.int .i64 0, .int .i64 0, .slice none 0 0]
  have ka := kept_alloc (kept_alloc (kept_refl w) (.cells #[.int .i64 n, .int .i64 s, .slice A l.length c] 24)) (.cells #[.int .i64 0, .int .i64 0, .slice none 0 0] 24)
  have q0 := a0.cell (j := 0) rfl
  have q1 := a0.cell (j := 1) rfl
  have q2 := a0.cell (j := 2) rfl
  go_enter Try.func40, Try.ntmps40
  go_wp2_with fail
  refine (valid_any n s A c l _ (by omega) (hr.kept ka)).mono ?_
  rintro e w1 ⟨rfl, k1⟩
  rw [hv]
  replace a0 := a0.kept k1
  replace a1 := a1.kept k1
  replace ka := kept_trans ka k1
  clear q0 q1 q2 k1
  have q0 := a0.cell (j := 0) rfl
  have q1 := a0.cell (j := 1) rfl
  have q2 := a0.cell (j := 2) rfl
  go_wp2_with fail
  refine (levels_any n s A c l _ (hr.kept ka) hv).mono ?_
  rintro e w2 ⟨g, rfl, hg, oL, k1⟩
  have z0 : w.heap.size + 2 ≤ w1.heap.size := by have := a1.lt; simp at this; omega
  replace a0 := a0.kept k1
  replace a1 := a1.kept k1
  replace ka := kept_trans ka k1
  have hg2 : g < w2.heap.size := oL.lt
  have hg1 : w.heap.size + 2 ≤ g := by omega
  clear q0 q1 q2 k1 hg z0
  have z0 : w.heap.size < w2.heap.size := by omega
  have z1 : w.heap.size + 1 < w2.heap.size := by omega
  have z2 : w.heap.size < w2.heap.size + 1 := by omega
  have z3 : w.heap.size < w2.heap.size + 1 + 1 := by omega
  have q0 := a0.cell (j := 0) rfl
  have q1 := a0.cell (j := 1) rfl
  have q2 := a0.cell (j := 2) rfl
  go_wp2_with fail
  clear hmk hmm q0 q1 q2
  have b0 := ((a0.alloc (.cells (ints (List.replicate l.length 0)).toArray 3)).alloc (.cells #[.slice (some ⟨w2.heap.size, 0, none⟩) l.length l.length] 36)).alloc (.map #[] 0)
  have b1 := ((a1.alloc (.cells (ints (List.replicate l.length 0)).toArray 3)).alloc (.cells #[.slice (some ⟨w2.heap.size, 0, none⟩) l.length l.length] 36)).alloc (.map #[] 0)
  have bL := ((oL.alloc (.cells (ints (List.replicate l.length 0)).toArray 3)).alloc (.cells #[.slice (some ⟨w2.heap.size, 0, none⟩) l.length l.length] 36)).alloc (.map #[] 0)
  have bA := ((Own.new w2 3 (ints (List.replicate l.length 0))).alloc (.cells #[.slice (some ⟨w2.heap.size, 0, none⟩) l.length l.length] 36)).alloc (.map #[] 0)
  have bC := (Own.new (w2.alloc (.cells (ints (List.replicate l.length 0)).toArray 3)) 36 [.slice (some ⟨w2.heap.size, 0, none⟩) l.length l.length]).alloc (.map #[] 0)
  have bM := World.ownsMap_made (H := Unit) ((w2.alloc (.cells (ints (List.replicate l.length 0)).toArray 3)).alloc (.cells #[.slice (some ⟨w2.heap.size, 0, none⟩) l.length l.length] 36)) Try.prog 48 (plainElem Try.prog 3)
  have bK := kept_alloc (kept_alloc (kept_alloc ka (.cells (ints (List.replicate l.length 0)).toArray 3)) (.cells #[.slice (some ⟨w2.heap.size, 0, none⟩) l.length l.length] 36)) (.map #[] 0)
  simp only [World.size_alloc] at b1 bC bM
  have E : SlEnv w (((w2.alloc (.cells (ints (List.replicate l.length 0)).toArray 3)).alloc (.cells #[.slice (some ⟨w2.heap.size, 0, none⟩) l.length l.length] 36)).alloc (.map #[] 0)) w2.heap.size g n s A c l (List.replicate l.length 0) [] (.slice none 0 0) := ⟨b0, b1, bL, bA, bC, ⟨_, bM, mapIs_nil⟩, World.ownsRow_nil _ _ _ _, bK⟩
  clear b0 b1 bL bA bC bM bK a0 a1 oL ka z2 z3 z0
  go_loopg [8, 9] l.length (fun g' s8 s9 wr => ∃ j : Nat, j ≤ l.length ∧ g' = l.length - j ∧ s9 = .int .i64 ((l.length : Int) - 1 - j) ∧ SlEnv w wr w2.heap.size g n s A c l (slTo s l j).1 (slTo s l j).2 s8)
  case atStart => exact ⟨0, by omega, rfl, by simp, E⟩
  case round =>
    clear E
    obtain ⟨j, hj, rfl, rfl, E⟩ := hrel
    by_cases hlt : j < l.length
    · have INV := slInv hv j hj
      have hst : slTo s l (j + 1) = slStep s l (l.length - 1 - j) (slTo s l j) := rfl
      generalize hS : slTo s l j = S0 at E INV hst
      clear hS
      obtain ⟨a, ns⟩ := S0
      dsimp only at E INV
      obtain ⟨i, hi⟩ : ∃ i, i = l.length - 1 - j := ⟨_, rfl⟩
      have hf := slNode_facts hv INV hlt
      rw [← hi] at hst hf
      have hil : i < l.length := by omega
      have hgi : (l.length : Int) - 1 - j = i := by omega
      have hal : a.length = l.length := INV.len
      have hnm : ns.length ≤ j := INV.many
      have hn := valid_node hv hil
      obtain ⟨b, off, rfl, hcs⟩ := hr.at_ hil
      obtain ⟨d0, d1, d2⟩ := hcs i hil
      replace d0 := kept_cell E.K d0
      replace d1 := kept_cell E.K d1
      replace d2 := kept_cell E.K d2
      clear hcs
      obtain ⟨nn, hnn⟩ : ∃ x, x = slNode l a i := ⟨_, rfl⟩
      have n1 : nv l i = nn.v := by rw [hnn]; rfl
      have n2 : pl a (nz l i) = nn.z := by rw [hnn]; rfl
      have n3 : pl a (no l i) = nn.o := by rw [hnn]; rfl
      have q2 := E.o0.cell (j := 2) rfl
      have qC := E.oC.cell (j := 0) rfl
      have C1 := fun (w' : World) (k : Kept wr w') => place78_any (nz l i) a (w2.heap.size + 1) w2.heap.size _ _ w' hal.symm (kept_cell k qC) (E.oA.kept k) (by omega) (by omega)
      have C2 := fun (w' : World) (k : Kept wr w') => place78_any (no l i) a (w2.heap.size + 1) w2.heap.size _ _ w' hal.symm (kept_cell k qC) (E.oA.kept k) (by omega) (by omega)
      rw [n2] at C1
      rw [n3] at C2
      rw [n1] at d0
      unfold slStep at hst
      dsimp only at hst
      rw [← hnn] at hf hst
      have HC1 := Lib.hid C1; clear C1
      have HC2 := Lib.hid C2; clear C2
      have HN := Lib.hid hn
      have hv0 : 0 ≤ nn.v ∧ nn.v ≤ 16 := by omega
      have HNN := Lib.hid hnn; clear hnn n1 n2 n3 hn
      have HST := Lib.hid hst; clear hst
      have HINV := Lib.hid INV; clear INV
      have sz : w2.heap.size + 2 < wr.heap.size := by obtain ⟨D, h, _⟩ := E.mp; exact h.lt
      have e1 : (0 : Int) ≤ (i : Int) := by omega
      have e2 : (i : Int) < (l.length : Int) := by omega
      rw [hgi]
      have HGI := Lib.hid hgi; clear hgi
      have HI := Lib.hid hi; clear hi
      go_wp2_with fail
      refine region_x (fun w' => Kept wr w') [] (by kernel_rfl) (kept_drew (kept_refl _)) (fun hHeld => ?_)
      refine x_take (i := 0) (oi := { dst := some 33, op := Op.fieldAddr 24 (Operand.tmp 1) 2, type := 0, pos := "branch.go:252", after := #[], guard := none }) (v := ?_) rfl (by kernel_rfl) (by kernel_rfl) (by kernel_rfl) (by kernel_rfl) (by kernel_rfl) (fun _ _ _ h => h) (Or.inl ⟨rfl, ?_⟩) (by assumption) ?_
      rotate_left
      · (intro w' hSw; replace q2 := kept_cell hSw q2; replace d0 := kept_cell hSw d0; replace d1 := kept_cell hSw d1; replace d2 := kept_cell hSw d2; go_simp; try with_reducible rfl)
      try simp only [Act.put, List.setIfInBounds_toArray, List.set_cons_zero, List.set_cons_succ]
      refine x_take (i := 1) (oi := { dst := some 34, op := Op.load 22 (Operand.tmp 33), type := 22, pos := "branch.go:252", after := #[{ on := 0, ground := Ground.data }], guard := none }) (v := ?_) rfl (by kernel_rfl) (by kernel_rfl) (by kernel_rfl) (by kernel_rfl) (by kernel_rfl) (fun _ _ _ h => h) (Or.inl ⟨rfl, ?_⟩) (by assumption) ?_
      rotate_left
      · (intro w' hSw; replace q2 := kept_cell hSw q2; replace d0 := kept_cell hSw d0; replace d1 := kept_cell hSw d1; replace d2 := kept_cell hSw d2; go_simp; try with_reducible rfl)
      try simp only [Act.put, List.setIfInBounds_toArray, List.set_cons_zero, List.set_cons_succ]
      refine x_take (i := 2) (oi := { dst := some 35, op := Op.move (Operand.tmp 9), type := 3, pos := "branch.go:252", after := #[], guard := none }) (v := ?_) rfl (by kernel_rfl) (by kernel_rfl) (by kernel_rfl) (by kernel_rfl) (by kernel_rfl) (fun _ _ _ h => h) (Or.inl ⟨rfl, ?_⟩) (by assumption) ?_
      rotate_left
      · (intro w' hSw; replace q2 := kept_cell hSw q2; replace d0 := kept_cell hSw d0; replace d1 := kept_cell hSw d1; replace d2 := kept_cell hSw d2; go_simp; try with_reducible rfl)
      try simp only [Act.put, List.setIfInBounds_toArray, List.set_cons_zero, List.set_cons_succ]
      refine x_take (i := 3) (oi := { dst := some 36, op := Op.indexAddr 22 (Operand.tmp 34) (Operand.tmp 35), type := 0, pos := "branch.go:252", after := #[{ on := 1, ground := Ground.data }, { on := 2, ground := Ground.data }], guard := none }) (v := ?_) rfl (by kernel_rfl) (by kernel_rfl) (by kernel_rfl) (by kernel_rfl) (by kernel_rfl) (fun _ _ _ h => h) (Or.inl ⟨rfl, ?_⟩) (by assumption) ?_
      rotate_left
      · (intro w' hSw; replace q2 := kept_cell hSw q2; replace d0 := kept_cell hSw d0; replace d1 := kept_cell hSw d1; replace d2 := kept_cell hSw d2; go_simp; try with_reducible rfl)
      try simp only [Act.put, List.setIfInBounds_toArray, List.set_cons_zero, List.set_cons_succ]
      refine x_take (i := 4) (oi := { dst := some 37, op := Op.fieldAddr 48 (Operand.tmp 36) 0, type := 0, pos := "branch.go:252", after := #[{ on := 3, ground := Ground.data }], guard := none }) (v := ?_) rfl (by kernel_rfl) (by kernel_rfl) (by kernel_rfl) (by kernel_rfl) (by kernel_rfl) (fun _ _ _ h => h) (Or.inl ⟨rfl, ?_⟩) (by assumption) ?_
      rotate_left
      · (intro w' hSw; replace q2 := kept_cell hSw q2; replace d0 := kept_cell hSw d0; replace d1 := kept_cell hSw d1; replace d2 := kept_cell hSw d2; go_simp; try with_reducible rfl)
      try simp only [Act.put, List.setIfInBounds_toArray, List.set_cons_zero, List.set_cons_succ]
      refine x_take (i := 5) (oi := { dst := some 38, op := Op.load 3 (Operand.tmp 37), type := 3, pos := "branch.go:252", after := #[{ on := 4, ground := Ground.data }], guard := none }) (v := ?_) rfl (by kernel_rfl) (by kernel_rfl) (by kernel_rfl) (by kernel_rfl) (by kernel_rfl) (fun _ _ _ h => h) (Or.inl ⟨rfl, ?_⟩) (by assumption) ?_
      rotate_left
      · (intro w' hSw; replace q2 := kept_cell hSw q2; replace d0 := kept_cell hSw d0; replace d1 := kept_cell hSw d1; replace d2 := kept_cell hSw d2; go_simp; try with_reducible rfl)
      try simp only [Act.put, List.setIfInBounds_toArray, List.set_cons_zero, List.set_cons_succ]
      refine x_take (i := 6) (oi := { dst := some 39, op := Op.move (Operand.tmp 6), type := 94, pos := "branch.go:252", after := #[], guard := none }) (v := ?_) rfl (by kernel_rfl) (by kernel_rfl) (by kernel_rfl) (by kernel_rfl) (by kernel_rfl) (fun _ _ _ h => h) (Or.inl ⟨rfl, ?_⟩) (by assumption) ?_
      rotate_left
      · (intro w' hSw; replace q2 := kept_cell hSw q2; replace d0 := kept_cell hSw d0; replace d1 := kept_cell hSw d1; replace d2 := kept_cell hSw d2; go_simp; try with_reducible rfl)
      try simp only [Act.put, List.setIfInBounds_toArray, List.set_cons_zero, List.set_cons_succ]
      refine x_take (i := 7) (oi := { dst := some 40, op := Op.fieldAddr 24 (Operand.tmp 1) 2, type := 0, pos := "branch.go:252", after := #[], guard := none }) (v := ?_) rfl (by kernel_rfl) (by kernel_rfl) (by kernel_rfl) (by kernel_rfl) (by kernel_rfl) (fun _ _ _ h => h) (Or.inl ⟨rfl, ?_⟩) (by assumption) ?_
      rotate_left
      · (intro w' hSw; replace q2 := kept_cell hSw q2; replace d0 := kept_cell hSw d0; replace d1 := kept_cell hSw d1; replace d2 := kept_cell hSw d2; go_simp; try with_reducible rfl)
      try simp only [Act.put, List.setIfInBounds_toArray, List.set_cons_zero, List.set_cons_succ]
      refine x_take (i := 8) (oi := { dst := some 41, op := Op.load 22 (Operand.tmp 40), type := 22, pos := "branch.go:252", after := #[{ on := 7, ground := Ground.data }], guard := none }) (v := ?_) rfl (by kernel_rfl) (by kernel_rfl) (by kernel_rfl) (by kernel_rfl) (by kernel_rfl) (fun _ _ _ h => h) (Or.inl ⟨rfl, ?_⟩) (by assumption) ?_
      rotate_left
      · (intro w' hSw; replace q2 := kept_cell hSw q2; replace d0 := kept_cell hSw d0; replace d1 := kept_cell hSw d1; replace d2 := kept_cell hSw d2; go_simp; try with_reducible rfl)
      try simp only [Act.put, List.setIfInBounds_toArray, List.set_cons_zero, List.set_cons_succ]
      refine x_take (i := 9) (oi := { dst := some 42, op := Op.move (Operand.tmp 9), type := 3, pos := "branch.go:252", after := #[], guard := none }) (v := ?_) rfl (by kernel_rfl) (by kernel_rfl) (by kernel_rfl) (by kernel_rfl) (by kernel_rfl) (fun _ _ _ h => h) (Or.inl ⟨rfl, ?_⟩) (by assumption) ?_
      rotate_left
      · (intro w' hSw; replace q2 := kept_cell hSw q2; replace d0 := kept_cell hSw d0; replace d1 := kept_cell hSw d1; replace d2 := kept_cell hSw d2; go_simp; try with_reducible rfl)
      try simp only [Act.put, List.setIfInBounds_toArray, List.set_cons_zero, List.set_cons_succ]
      refine x_take (i := 10) (oi := { dst := some 43, op := Op.indexAddr 22 (Operand.tmp 41) (Operand.tmp 42), type := 0, pos := "branch.go:252", after := #[{ on := 8, ground := Ground.data }, { on := 9, ground := Ground.data }], guard := none }) (v := ?_) rfl (by kernel_rfl) (by kernel_rfl) (by kernel_rfl) (by kernel_rfl) (by kernel_rfl) (fun _ _ _ h => h) (Or.inl ⟨rfl, ?_⟩) (by assumption) ?_
      rotate_left
      · (intro w' hSw; replace q2 := kept_cell hSw q2; replace d0 := kept_cell hSw d0; replace d1 := kept_cell hSw d1; replace d2 := kept_cell hSw d2; go_simp; try with_reducible rfl)
      try simp only [Act.put, List.setIfInBounds_toArray, List.set_cons_zero, List.set_cons_succ]
      refine x_take (i := 11) (oi := { dst := some 44, op := Op.fieldAddr 48 (Operand.tmp 43) 1, type := 0, pos := "branch.go:252", after := #[{ on := 10, ground := Ground.data }], guard := none }) (v := ?_) rfl (by kernel_rfl) (by kernel_rfl) (by kernel_rfl) (by kernel_rfl) (by kernel_rfl) (fun _ _ _ h => h) (Or.inl ⟨rfl, ?_⟩) (by assumption) ?_
      rotate_left
      · (intro w' hSw; replace q2 := kept_cell hSw q2; replace d0 := kept_cell hSw d0; replace d1 := kept_cell hSw d1; replace d2 := kept_cell hSw d2; go_simp; try with_reducible rfl)
      try simp only [Act.put, List.setIfInBounds_toArray, List.set_cons_zero, List.set_cons_succ]
      refine x_take (i := 12) (oi := { dst := some 45, op := Op.load 3 (Operand.tmp 44), type := 3, pos := "branch.go:252", after := #[{ on := 11, ground := Ground.data }], guard := none }) (v := ?_) rfl (by kernel_rfl) (by kernel_rfl) (by kernel_rfl) (by kernel_rfl) (by kernel_rfl) (fun _ _ _ h => h) (Or.inl ⟨rfl, ?_⟩) (by assumption) ?_
      rotate_left
      · (intro w' hSw; replace q2 := kept_cell hSw q2; replace d0 := kept_cell hSw d0; replace d1 := kept_cell hSw d1; replace d2 := kept_cell hSw d2; go_simp; try with_reducible rfl)
      try simp only [Act.put, List.setIfInBounds_toArray, List.set_cons_zero, List.set_cons_succ]
      refine x_call (i := 13) (oi := { dst := some 46, op := Op.call { callee := Callee.value (Operand.tmp 39), args := #[Operand.tmp 45], argTypes := #[3] }, type := 3, pos := "branch.go:252", after := #[{ on := 6, ground := Ground.data }, { on := 12, ground := Ground.data }], guard := none }) (v := _) rfl (by kernel_rfl) (by kernel_rfl) (by kernel_rfl) (by kernel_rfl) (by kernel_rfl) (fun _ _ _ h => h) rfl 78 _ ?_ (fun w' hSw => HC1.out w' hSw) (by assumption) ?_
      · (intro w' hSw; go_simp; try with_reducible rfl)
      try simp only [Act.put, List.setIfInBounds_toArray, List.set_cons_zero, List.set_cons_succ]
      refine x_take (i := 14) (oi := { dst := some 47, op := Op.move (Operand.tmp 6), type := 94, pos := "branch.go:252", after := #[], guard := none }) (v := ?_) rfl (by kernel_rfl) (by kernel_rfl) (by kernel_rfl) (by kernel_rfl) (by kernel_rfl) (fun _ _ _ h => h) (Or.inl ⟨rfl, ?_⟩) (by assumption) ?_
      rotate_left
      · (intro w' hSw; replace q2 := kept_cell hSw q2; replace d0 := kept_cell hSw d0; replace d1 := kept_cell hSw d1; replace d2 := kept_cell hSw d2; go_simp; try with_reducible rfl)
      try simp only [Act.put, List.setIfInBounds_toArray, List.set_cons_zero, List.set_cons_succ]
      refine x_take (i := 15) (oi := { dst := some 48, op := Op.fieldAddr 24 (Operand.tmp 1) 2, type := 0, pos := "branch.go:252", after := #[], guard := none }) (v := ?_) rfl (by kernel_rfl) (by kernel_rfl) (by kernel_rfl) (by kernel_rfl) (by kernel_rfl) (fun _ _ _ h => h) (Or.inl ⟨rfl, ?_⟩) (by assumption) ?_
      rotate_left
      · (intro w' hSw; replace q2 := kept_cell hSw q2; replace d0 := kept_cell hSw d0; replace d1 := kept_cell hSw d1; replace d2 := kept_cell hSw d2; go_simp; try with_reducible rfl)
      try simp only [Act.put, List.setIfInBounds_toArray, List.set_cons_zero, List.set_cons_succ]
      refine x_take (i := 16) (oi := { dst := some 49, op := Op.load 22 (Operand.tmp 48), type := 22, pos := "branch.go:252", after := #[{ on := 15, ground := Ground.data }], guard := none }) (v := ?_) rfl (by kernel_rfl) (by kernel_rfl) (by kernel_rfl) (by kernel_rfl) (by kernel_rfl) (fun _ _ _ h => h) (Or.inl ⟨rfl, ?_⟩) (by assumption) ?_
      rotate_left
      · (intro w' hSw; replace q2 := kept_cell hSw q2; replace d0 := kept_cell hSw d0; replace d1 := kept_cell hSw d1; replace d2 := kept_cell hSw d2; go_simp; try with_reducible rfl)
      try simp only [Act.put, List.setIfInBounds_toArray, List.set_cons_zero, List.set_cons_succ]
      refine x_take (i := 17) (oi := { dst := some 50, op := Op.move (Operand.tmp 9), type := 3, pos := "branch.go:252", after := #[], guard := none }) (v := ?_) rfl (by kernel_rfl) (by kernel_rfl) (by kernel_rfl) (by kernel_rfl) (by kernel_rfl) (fun _ _ _ h => h) (Or.inl ⟨rfl, ?_⟩) (by assumption) ?_
      rotate_left
      · (intro w' hSw; replace q2 := kept_cell hSw q2; replace d0 := kept_cell hSw d0; replace d1 := kept_cell hSw d1; replace d2 := kept_cell hSw d2; go_simp; try with_reducible rfl)
      try simp only [Act.put, List.setIfInBounds_toArray, List.set_cons_zero, List.set_cons_succ]
      refine x_take (i := 18) (oi := { dst := some 51, op := Op.indexAddr 22 (Operand.tmp 49) (Operand.tmp 50), type := 0, pos := "branch.go:252", after := #[{ on := 16, ground := Ground.data }, { on := 17, ground := Ground.data }], guard := none }) (v := ?_) rfl (by kernel_rfl) (by kernel_rfl) (by kernel_rfl) (by kernel_rfl) (by kernel_rfl) (fun _ _ _ h => h) (Or.inl ⟨rfl, ?_⟩) (by assumption) ?_
      rotate_left
      · (intro w' hSw; replace q2 := kept_cell hSw q2; replace d0 := kept_cell hSw d0; replace d1 := kept_cell hSw d1; replace d2 := kept_cell hSw d2; go_simp; try with_reducible rfl)
      try simp only [Act.put, List.setIfInBounds_toArray, List.set_cons_zero, List.set_cons_succ]
      refine x_take (i := 19) (oi := { dst := some 52, op := Op.fieldAddr 48 (Operand.tmp 51) 2, type := 0, pos := "branch.go:252", after := #[{ on := 18, ground := Ground.data }], guard := none }) (v := ?_) rfl (by kernel_rfl) (by kernel_rfl) (by kernel_rfl) (by kernel_rfl) (by kernel_rfl) (fun _ _ _ h => h) (Or.inl ⟨rfl, ?_⟩) (by assumption) ?_
      rotate_left
      · (intro w' hSw; replace q2 := kept_cell hSw q2; replace d0 := kept_cell hSw d0; replace d1 := kept_cell hSw d1; replace d2 := kept_cell hSw d2; go_simp; try with_reducible rfl)
      try simp only [Act.put, List.setIfInBounds_toArray, List.set_cons_zero, List.set_cons_succ]
      refine x_take (i := 20) (oi := { dst := some 53, op := Op.load 3 (Operand.tmp 52), type := 3, pos := "branch.go:252", after := #[{ on := 19, ground := Ground.data }], guard := none }) (v := ?_) rfl (by kernel_rfl) (by kernel_rfl) (by kernel_rfl) (by kernel_rfl) (by kernel_rfl) (fun _ _ _ h => h) (Or.inl ⟨rfl, ?_⟩) (by assumption) ?_
      rotate_left
      · (intro w' hSw; replace q2 := kept_cell hSw q2; replace d0 := kept_cell hSw d0; replace d1 := kept_cell hSw d1; replace d2 := kept_cell hSw d2; go_simp; try with_reducible rfl)
      try simp only [Act.put, List.setIfInBounds_toArray, List.set_cons_zero, List.set_cons_succ]
      refine x_call (i := 21) (oi := { dst := some 54, op := Op.call { callee := Callee.value (Operand.tmp 47), args := #[Operand.tmp 53], argTypes := #[3] }, type := 3, pos := "branch.go:252", after := #[{ on := 14, ground := Ground.data }, { on := 20, ground := Ground.data }, { on := 13, ground := Ground.chain }], guard := none }) (v := _) rfl (by kernel_rfl) (by kernel_rfl) (by kernel_rfl) (by kernel_rfl) (by kernel_rfl) (fun _ _ _ h => h) rfl 78 _ ?_ (fun w' hSw => HC2.out w' hSw) (by assumption) ?_
      · (intro w' hSw; go_simp; try with_reducible rfl)
      try simp only [Act.put, List.setIfInBounds_toArray, List.set_cons_zero, List.set_cons_succ]
      refine x_take (i := 22) (oi := { dst := some 55, op := Op.build 48 #[(0, Operand.tmp 38), (1, Operand.tmp 46), (2, Operand.tmp 54)], type := 48, pos := "branch.go:252", after := #[{ on := 5, ground := Ground.data }, { on := 13, ground := Ground.data }, { on := 21, ground := Ground.data }], guard := none }) (v := ?_) rfl (by kernel_rfl) (by kernel_rfl) (by kernel_rfl) (by kernel_rfl) (by kernel_rfl) (fun _ _ _ h => h) (Or.inl ⟨rfl, ?_⟩) (by assumption) ?_
      rotate_left
      · (intro w' hSw; replace q2 := kept_cell hSw q2; replace d0 := kept_cell hSw d0; replace d1 := kept_cell hSw d1; replace d2 := kept_cell hSw d2; go_simp; try with_reducible rfl)
      try simp only [Act.put, List.setIfInBounds_toArray, List.set_cons_zero, List.set_cons_succ]
      refine x_one (i := 23) (o := { dst := some 10, op := Op.alloc 48, type := 0, pos := "branch.go:252", after := #[], guard := none }) (by kernel_rfl) rfl (fun K hK => ?_)
      go_simp
      refine hK.out _ _ ?_ (fun hHeld => ?_)
      · (try dsimp only); repeat (first | assumption | exact kept_refl _ | refine kept_drew ?_ | refine kept_alloc ?_ _ | refine kept_set ?_ (by omega) _)
      clear hK K
      try simp only [Act.put, List.setIfInBounds_toArray, List.set_cons_zero, List.set_cons_succ]
      refine x_one (i := 24) (o := { dst := none, op := Op.store 48 (Operand.tmp 10) (Operand.tmp 55), type := 0, pos := "branch.go:252", after := #[{ on := 23, ground := Ground.data }, { on := 22, ground := Ground.data }, { on := 21, ground := Ground.chain }, { on := 0, ground := Ground.phase }, { on := 1, ground := Ground.phase }, { on := 2, ground := Ground.phase }, { on := 3, ground := Ground.phase }, { on := 4, ground := Ground.phase }, { on := 5, ground := Ground.phase }, { on := 6, ground := Ground.phase }, { on := 7, ground := Ground.phase }, { on := 8, ground := Ground.phase }, { on := 9, ground := Ground.phase }, { on := 10, ground := Ground.phase }, { on := 11, ground := Ground.phase }, { on := 12, ground := Ground.phase }, { on := 13, ground := Ground.phase }, { on := 14, ground := Ground.phase }, { on := 15, ground := Ground.phase }, { on := 16, ground := Ground.phase }, { on := 17, ground := Ground.phase }, { on := 18, ground := Ground.phase }, { on := 19, ground := Ground.phase }, { on := 20, ground := Ground.phase }, { on := 21, ground := Ground.phase }, { on := 22, ground := Ground.phase }, { on := 23, ground := Ground.phase }], guard := none }) (by kernel_rfl) rfl (fun K hK => ?_)
      go_simp
      refine hK.out _ _ ?_ (fun hHeld => ?_)
      · (try dsimp only); repeat (first | assumption | exact kept_refl _ | refine kept_drew ?_ | refine kept_alloc ?_ _ | refine kept_set ?_ (by omega) _)
      clear hK K
      try simp only [Act.put, List.setIfInBounds_toArray, List.set_cons_zero, List.set_cons_succ]
      refine x_done (by kernel_rfl) ?_ _
      have KW : Kept wr (wr.alloc (.cells #[.int .i64 nn.v, .int .i64 nn.z, .int .i64 nn.o] 48)).drew := kept_drew (kept_alloc (kept_refl _) _)
      have oN := (Own.new wr 48 [.int .i64 nn.v, .int .i64 nn.z, .int .i64 nn.o]).drew
      replace E := E.kept KW
      obtain ⟨W, hW⟩ : ∃ W, W = (wr.alloc (.cells #[.int .i64 nn.v, .int .i64 nn.z, .int .i64 nn.o] 48)).drew := ⟨_, rfl⟩
      rw [← hW] at oN E KW ⊢
      clear hHeld hW d0 d1 d2 qC q2
      have n0 := oN.cell (j := 0) rfl
      have n1 := oN.cell (j := 1) rfl
      have n2 := oN.cell (j := 2) rfl
      have qC := E.oC.cell (j := 0) rfl
      have qL := E.oL.int (j := i) (by simpa using hil)
      have qA := E.oA.int (j := i) (by omega)
      have fA := E.oA.frozen i
      by_cases hsk : nn.z = nn.o ∨ ia (lv s l) i < 0
      · have hst := HST.out
        rw [if_pos hsk] at hst
        have HST2 := Lib.hid hst; clear hst HST
        have E2 := E.setA z1 hg2 i nn.z
        by_cases hz : nn.z = nn.o
        case' pos => have hzb : (nn.z == nn.o) = true := beq_iff_eq.2 hz
        case' neg =>
          have hzb : (nn.z == nn.o) = false := beq_eq_false_iff_ne.2 hz
          have hneg : ia (lv s l) i < 0 := hsk.resolve_left hz
        all_goals
          clear hsk hz E
          go_wp2_with fail
          go_roundg (l.length - (j + 1))
          case rel => exact ⟨j + 1, by omega, rfl, congrArg (Value.int .i64) (by have := HGI.out; omega), by rw [HST2.out]; exact E2⟩
          case measure => omega
      · have hst := HST.out
        rw [if_neg hsk] at hst
        have hzb : (nn.z == nn.o) = false := beq_eq_false_iff_ne.2 fun e => hsk (.inl e)
        have hpos : 0 ≤ ia (lv s l) i := by
          rcases Int.lt_or_le (ia (lv s l) i) 0 with h | h
          · exact absurd (.inr h) hsk
          · exact h
        have hin : ndIn nn := by
          unfold ndIn i64In
          unfold refOk at hf
          omega
        obtain ⟨D, hown, hmd⟩ := E.mp
        obtain ⟨hhas, hat0⟩ := hmd nn hin
        clear hsk HST
        cases hix : idx ns nn with
        | some k =>
          rw [hix] at hst hhas hat0
          have hat1 := hat0 k rfl
          have HST2 := Lib.hid hst; clear hst hat0
          have E2 := E.setA z1 hg2 i k
          have HIX := Lib.hid hix; clear hix
          have hh : has D (nodeLit nn) = true := hhas
          clear hhas hmd E
          have kb : (k : Int) < 20000 := by have := (idx_some HIX.out).1; omega
          go_wp2_with (at_lookup; refine wpList_lookup_own_ok_int _ rfl _ _ 95 rfl 48 3 .i64 nodeLaw under95 Try.underlying3 (zero3 _) (w2.heap.size + 2) ns.length D rfl hown _ (nodeLit nn) rfl (node_key hin) ?_; intro c0 hat hwc; obtain rfl : c0 = (k : Int) := by (rw [hat1] at hat; injection hat with h; injection h with _ h2; exact h2.symm))
          go_roundg (l.length - (j + 1))
          case rel => exact ⟨j + 1, by omega, rfl, congrArg (Value.int .i64) (by have := HGI.out; omega), by rw [HST2.out]; exact E2⟩
          case measure => omega
        | none =>
          rw [hix] at hst hhas
          have HST2 := Lib.hid hst; clear hst hat0
          have HIX := Lib.hid hix; clear hix
          have hh : has D (nodeLit nn) = false := hhas
          have HMD := Lib.hid hmd; clear hmd hhas
          obtain ⟨A8, c8, rfl, hrow⟩ := row_form E.row
          have szW : wr.heap.size ≤ W.heap.size := KW.size
          have wfk : (Lit.int .i64 (ns.length : Int)).wf = true := i64_wf (by unfold i64In; omega)
          go_wp2_with (first | (at_lookup; refine wpList_lookup_own_ok_int _ rfl _ _ 95 rfl 48 3 .i64 nodeLaw under95 Try.underlying3 (zero3 _) (w2.heap.size + 2) ns.length D rfl hown _ (nodeLit nn) rfl (node_key hin) ?_; intro c0 hat hwc; clear hat hwc) | (at_mapUpdate; go_loud (refine wpList_mapUpdate_own _ rfl _ _ _ 95 rfl 48 3 nodeLaw under95 (plainElem Try.prog 3) (w2.heap.size + 2) ns.length D rfl hown (by unfold maxLen; omega) _ _ (nodeLit nn) rfl rfl (node_key hin) _ [] (plainElem_int Try.underlying3 wfk) ?_; intro w5 hown5 hg5; have o5 := oN.grown hg5 (by intro e; injection e with e; omega); replace n0 := o5.cell (j := 0) rfl; replace n1 := o5.cell (j := 1) rfl; replace n2 := o5.cell (j := 2) rfl; have hrow5 := hrow.kept hg5 (.inr (by intro e; have := (hrow.lt _ e).1; omega)); have s5 : w2.heap.size + 3 ≤ w5.heap.size := (by have := hg5.size; omega))) | (at_builtin; refine app_law (w2.heap.size + 3) rfl (.tmp 86) (.tmp 88) 22 48 (.agg #[.int .i64 0, .int .i64 0, .int .i64 0]) 3 24 rfl Try.underlying22 info48 rfl (by omega) (by omega) (.slice A8 ns.length c8) ns.length 1 (ndCells ns) [.int .i64 nn.v, .int .i64 nn.z, .int .i64 nn.o] rfl rfl rfl (one_nds [nn]) hrow5 s5 (by omega) ?_; intro v7 w7 hr7 hg7 hat7; rw [ndCells_snoc] at hr7; have E7 := E.put z1 hg2 ⟨_, hown5, mapIs_put HMD.out hown.isMap hin HIX.out⟩ hg5 hr7 hg7; have E8 := E7.setA z1 hg2 i ns.length; replace qC := E7.oC.cell (j := 0) rfl; replace qA := E7.oA.int (j := i) (by omega); replace fA := E7.oA.frozen i; clear hr7 hg7 hat7 E7 hown5 hg5 hrow5 hown))
          go_roundg (l.length - (j + 1))
          case rel => exact ⟨j + 1, by omega, rfl, congrArg (Value.int .i64) (by have := HGI.out; omega), by rw [HST2.out]; exact E8⟩
          case measure => omega
    · have : j = l.length := by omega
      subst this
      obtain ⟨t1, _, _, _, _⟩ := turned_ok hv
      have INV := slInv hv l.length (Nat.le_refl _)
      have e1 : tn (slTo s l l.length).2.length (pl (slTo s l l.length).1 s) = slS s l := rfl
      have e2 : tnodes (slTo s l l.length).2 = slL s l := rfl
      rw [e1, e2] at t1
      generalize (slTo s l l.length).1 = a at E INV e1
      generalize (slTo s l l.length).2 = ns at E INV e1 e2
      have hal := INV.len
      have hnm := INV.many
      have hps : refOk (pl a s) ns.length := pl_ok (by
        rcases hs with e | e | e
        · exact .inl e
        · exact .inr (.inl e)
        · exact .inr (.inr ⟨by omega, INV.refs _ (by omega) (by omega)⟩))
      have hnodes : ∀ k, k < ns.length → -2 ≤ nz ns k ∧ nz ns k < ns.length ∧ -2 ≤ no ns k ∧ no ns k < ns.length := fun k hk => by
        have := INV.nodes k hk
        simp only [nd_z, nd_o, refOk] at this
        omega
      obtain ⟨A8, c8, rfl, hrow⟩ := row_form E.row
      have q0 := E.o0.cell (j := 0) rfl
      have q1 := E.o0.cell (j := 1) rfl
      have qC := E.oC.cell (j := 0) rfl
      have C1 := fun (w' : World) (k : Kept wr w') => place78_any s a (w2.heap.size + 1) w2.heap.size _ _ w' hal.symm (kept_cell k qC) (E.oA.kept k) (by omega) (by omega)
      have C2 := fun (w' : World) (k : Kept wr w') => turned_any n (pl a s) A8 ns.length c8 ns w' ((row_rd hrow).kept k) rfl (by omega) (by unfold refOk at hps; omega) (by unfold refOk at hps; omega) hnodes
      rw [e1, e2] at C2
      have C3 := fun (w' : World) (A3 : Option Addr) (c3 : Nat) (h : RN w' A3 (slL s l)) => reached_any n (slS s l) A3 c3 (slL s l) w' h t1
      obtain ⟨rs, hrs⟩ : ∃ x, x = rstart (slS s l) (slL s l) := ⟨_, rfl⟩
      rw [← hrs] at C3
      have HC1 := Lib.hid C1; have HC2 := Lib.hid C2; have HC3 := Lib.hid C3
      have HRS := Lib.hid hrs
      clear C1 C2 C3 hrs hps hnodes e1 e2 INV t1
      have oR := E.o1
      have KR := E.K
      go_wp2_with fail
      refine region_x (fun w' => Kept wr w') [9, 10] (by kernel_rfl) (kept_drew (kept_refl _)) (fun hHeld => ?_)
      refine x_take (i := 0) (oi := { dst := some 94, op := Op.fieldAddr 24 (Operand.tmp 1) 0, type := 0, pos := "branch.go:265", after := #[], guard := none }) (v := ?_) rfl (by kernel_rfl) (by kernel_rfl) (by kernel_rfl) (by kernel_rfl) (by kernel_rfl) (fun _ _ _ h => h) (Or.inl ⟨rfl, ?_⟩) (by assumption) ?_
      rotate_left
      · (intro w' hSw; replace q0 := kept_cell hSw q0; replace q1 := kept_cell hSw q1; go_simp; try with_reducible rfl)
      try simp only [Act.put, List.setIfInBounds_toArray, List.set_cons_zero, List.set_cons_succ]
      refine x_take (i := 1) (oi := { dst := some 95, op := Op.load 3 (Operand.tmp 94), type := 3, pos := "branch.go:265", after := #[{ on := 0, ground := Ground.data }], guard := none }) (v := ?_) rfl (by kernel_rfl) (by kernel_rfl) (by kernel_rfl) (by kernel_rfl) (by kernel_rfl) (fun _ _ _ h => h) (Or.inl ⟨rfl, ?_⟩) (by assumption) ?_
      rotate_left
      · (intro w' hSw; replace q0 := kept_cell hSw q0; replace q1 := kept_cell hSw q1; go_simp; try with_reducible rfl)
      try simp only [Act.put, List.setIfInBounds_toArray, List.set_cons_zero, List.set_cons_succ]
      refine x_take (i := 2) (oi := { dst := some 96, op := Op.move (Operand.tmp 6), type := 94, pos := "branch.go:265", after := #[], guard := none }) (v := ?_) rfl (by kernel_rfl) (by kernel_rfl) (by kernel_rfl) (by kernel_rfl) (by kernel_rfl) (fun _ _ _ h => h) (Or.inl ⟨rfl, ?_⟩) (by assumption) ?_
      rotate_left
      · (intro w' hSw; replace q0 := kept_cell hSw q0; replace q1 := kept_cell hSw q1; go_simp; try with_reducible rfl)
      try simp only [Act.put, List.setIfInBounds_toArray, List.set_cons_zero, List.set_cons_succ]
      refine x_take (i := 3) (oi := { dst := some 97, op := Op.fieldAddr 24 (Operand.tmp 1) 1, type := 0, pos := "branch.go:265", after := #[], guard := none }) (v := ?_) rfl (by kernel_rfl) (by kernel_rfl) (by kernel_rfl) (by kernel_rfl) (by kernel_rfl) (fun _ _ _ h => h) (Or.inl ⟨rfl, ?_⟩) (by assumption) ?_
      rotate_left
      · (intro w' hSw; replace q0 := kept_cell hSw q0; replace q1 := kept_cell hSw q1; go_simp; try with_reducible rfl)
      try simp only [Act.put, List.setIfInBounds_toArray, List.set_cons_zero, List.set_cons_succ]
      refine x_take (i := 4) (oi := { dst := some 98, op := Op.load 3 (Operand.tmp 97), type := 3, pos := "branch.go:265", after := #[{ on := 3, ground := Ground.data }], guard := none }) (v := ?_) rfl (by kernel_rfl) (by kernel_rfl) (by kernel_rfl) (by kernel_rfl) (by kernel_rfl) (fun _ _ _ h => h) (Or.inl ⟨rfl, ?_⟩) (by assumption) ?_
      rotate_left
      · (intro w' hSw; replace q0 := kept_cell hSw q0; replace q1 := kept_cell hSw q1; go_simp; try with_reducible rfl)
      try simp only [Act.put, List.setIfInBounds_toArray, List.set_cons_zero, List.set_cons_succ]
      refine x_call (i := 5) (oi := { dst := some 99, op := Op.call { callee := Callee.value (Operand.tmp 96), args := #[Operand.tmp 98], argTypes := #[3] }, type := 3, pos := "branch.go:265", after := #[{ on := 2, ground := Ground.data }, { on := 4, ground := Ground.data }], guard := none }) (v := _) rfl (by kernel_rfl) (by kernel_rfl) (by kernel_rfl) (by kernel_rfl) (by kernel_rfl) (fun _ _ _ h => h) rfl 78 _ ?_ (fun w' hSw => HC1.out w' hSw) (by assumption) ?_
      · (intro w' hSw; go_simp; try with_reducible rfl)
      try simp only [Act.put, List.setIfInBounds_toArray, List.set_cons_zero, List.set_cons_succ]
      refine x_take (i := 6) (oi := { dst := some 100, op := Op.move (Operand.tmp 8), type := 22, pos := "branch.go:265", after := #[], guard := none }) (v := ?_) rfl (by kernel_rfl) (by kernel_rfl) (by kernel_rfl) (by kernel_rfl) (by kernel_rfl) (fun _ _ _ h => h) (Or.inl ⟨rfl, ?_⟩) (by assumption) ?_
      rotate_left
      · (intro w' hSw; replace q0 := kept_cell hSw q0; replace q1 := kept_cell hSw q1; go_simp; try with_reducible rfl)
      try simp only [Act.put, List.setIfInBounds_toArray, List.set_cons_zero, List.set_cons_succ]
      refine x_one (i := 7) (o := { dst := some 101, op := Op.call { callee := Callee.value (Operand.func 80), args := #[Operand.tmp 95, Operand.tmp 99, Operand.tmp 100], argTypes := #[3, 3, 22] }, type := 24, pos := "branch.go:265", after := #[{ on := 1, ground := Ground.data }, { on := 5, ground := Ground.data }, { on := 6, ground := Ground.data }, { on := 5, ground := Ground.chain }], guard := none }) (by kernel_rfl) rfl (fun K hK => ?_)
      (go_simp; go_at_call 80; refine (HC2.out _ hHeld).mono ?_; rintro e w3 ⟨v3, rfl, A3, c3, rfl, row3, k3⟩; have KK3 : Kept wr w3 := kept_trans hHeld k3; try dsimp only)
      refine hK.out _ _ ?_ (fun hHeld => ?_)
      · (try dsimp only); repeat (first | assumption | exact kept_refl _ | refine kept_drew ?_ | refine kept_alloc ?_ _ | refine kept_set ?_ (by omega) _)
      clear hK K
      try simp only [Act.put, List.setIfInBounds_toArray, List.set_cons_zero, List.set_cons_succ]
      refine x_one (i := 8) (o := { dst := some 102, op := Op.call { callee := Callee.value (Operand.func 79), args := #[Operand.tmp 101], argTypes := #[24] }, type := 24, pos := "branch.go:265", after := #[{ on := 7, ground := Ground.data }, { on := 7, ground := Ground.chain }], guard := none }) (by kernel_rfl) rfl (fun K hK => ?_)
      (go_simp; go_at_call 79; refine (HC3.out _ _ _ (row_rd row3)).mono ?_; rintro e w4 ⟨v4, rfl, A4, c4, rfl, row4, k4⟩; have KK4 : Kept wr w4 := kept_trans KK3 k4; have o4 := oR.kept KK4; have e0 := o4.cell (j := 0) rfl; have e1 := o4.cell (j := 1) rfl; have e2 := o4.cell (j := 2) rfl; have f0 := o4.frozen 0; have f1 := o4.frozen 1; have f2 := o4.frozen 2; try dsimp only)
      refine hK.out _ _ ?_ (fun hHeld => ?_)
      · (try dsimp only); repeat (first | assumption | exact kept_refl _ | refine kept_drew ?_ | refine kept_alloc ?_ _ | refine kept_set ?_ (by omega) _)
      clear hK K
      try simp only [Act.put, List.setIfInBounds_toArray, List.set_cons_zero, List.set_cons_succ]
      refine x_last (i := 9) (o := { dst := none, op := Op.store 24 (Operand.tmp 2) (Operand.tmp 102), type := 0, pos := "branch.go:265", after := #[{ on := 8, ground := Ground.data }, { on := 8, ground := Ground.chain }, { on := 0, ground := Ground.phase }, { on := 1, ground := Ground.phase }, { on := 2, ground := Ground.phase }, { on := 3, ground := Ground.phase }, { on := 4, ground := Ground.phase }, { on := 5, ground := Ground.phase }, { on := 6, ground := Ground.phase }, { on := 7, ground := Ground.phase }, { on := 8, ground := Ground.phase }], guard := none }) (by kernel_rfl) rfl (by simp) (fun K hK => ?_)
      go_simp
      refine hK.out _ _ ?_
      clear hK K
      try simp only [Act.put, List.setIfInBounds_toArray, List.set_cons_zero, List.set_cons_succ]
      refine x_last (i := 10) (o := { dst := some 3, op := Op.assign (Operand.const (Value.int IntKind.i64 0)), type := 30, pos := "branch.go:265", after := #[{ on := 9, ground := Ground.chain }, { on := 0, ground := Ground.phase }, { on := 1, ground := Ground.phase }, { on := 2, ground := Ground.phase }, { on := 3, ground := Ground.phase }, { on := 4, ground := Ground.phase }, { on := 5, ground := Ground.phase }, { on := 6, ground := Ground.phase }, { on := 7, ground := Ground.phase }, { on := 8, ground := Ground.phase }, { on := 9, ground := Ground.phase }], guard := none }) (by kernel_rfl) rfl (by simp) (fun K hK => ?_)
      go_simp
      refine hK.out _ _ ?_
      clear hK K
      try simp only [Act.put, List.setIfInBounds_toArray, List.set_cons_zero, List.set_cons_succ]
      refine x_done (by kernel_rfl) ?_ _
      have sz3 := k3.size
      have sz4 : w.heap.size + 2 ≤ w3.heap.size := by have := KK3.size; have := E.oC.lt; omega
      have szw : wr.heap.size = wr.drew.heap.size := rfl
      have o3 := ((o4.set 0 (.int .i64 n)).set 1 (.int .i64 rs)).set 2 (.slice A4 (rnodes (slS s l) (slL s l)).length c4)
      have pr := ownsRow_setCell_below (ownsRow_setCell_below (ownsRow_setCell_below row4 (a := ⟨w.heap.size + 1, 0, none⟩) (by dsimp only; omega) (.int .i64 n)) (a := ⟨w.heap.size + 1, 1, none⟩) (by dsimp only; omega) (.int .i64 rs)) (a := ⟨w.heap.size + 1, 2, none⟩) (by dsimp only; omega) (.slice A4 (rnodes (slS s l) (slL s l)).length c4)
      have K4 : Kept w w4 := kept_trans KR KK4
      have pk := kept_set (g := w.heap.size + 1) (j := 2) (kept_set (g := w.heap.size + 1) (j := 1) (kept_set (g := w.heap.size + 1) (j := 0) K4 (by omega) (.int .i64 n)) (by omega) (.int .i64 rs)) (by omega) (.slice A4 (rnodes (slS s l) (slL s l)).length c4)
      obtain ⟨W2, hW2⟩ : ∃ W2, W2 = ((w4.setCell ⟨w.heap.size + 1, 0, none⟩ (.int .i64 n)).setCell ⟨w.heap.size + 1, 1, none⟩ (.int .i64 rs)).setCell ⟨w.heap.size + 1, 2, none⟩ (.slice A4 (rnodes (slS s l) (slL s l)).length c4) := ⟨_, rfl⟩
      rw [← hW2] at pr pk o3 ⊢
      clear hW2 q0 q1 e0 e1 e2
      have q0 := o3.cell (j := 0) rfl
      have q1 := o3.cell (j := 1) rfl
      have q2 := o3.cell (j := 2) rfl
      go_wp2_with fail
      exact bodyPost_ret (v := .tuple #[.agg #[.int .i64 n, .int .i64 rs, .slice A4 (rnodes (slS s l) (slL s l)).length c4], .int .i64 0]) (by simp [results, Try.results40, go_sem, q0, q1, q2]) rfl ⟨_, rfl, A4, c4, by rw [HRS.out], pr.mono (by omega), pk⟩
end Go.Proofs.Ytinpmdekdfgiiaa
