/- Slim: the program without the nodes that are not reached. -/
import Derived.Test.YtinpmdekdfgiiaaE2
set_option linter.unusedVariables false
set_option linter.unusedSimpArgs false
namespace Go.Proofs.Ytinpmdekdfgiiaa
open Go.RowKit

def at2To (s : Int) (l : List Nd) (k : Nat) : List Int := (List.range k).map (rk s l) ++ List.replicate (l.length - k) 0
@[simp] theorem at2To_length {s : Int} {l : List Nd} {k : Nat} (h : k ≤ l.length) : (at2To s l k).length = l.length := by simp [at2To]; omega
theorem at2To_set {s : Int} {l : List Nd} {k : Nat} (h : k < l.length) : (at2To s l k).set k (rk s l k) = at2To s l (k + 1) := by
  unfold at2To
  rw [show l.length - k = (l.length - (k + 1)) + 1 by omega, List.replicate_succ, List.set_append_right _ _ (by simp), List.range_succ]
  simp
theorem at2To_zero (s : Int) (l : List Nd) : at2To s l 0 = List.replicate l.length 0 := by simp [at2To]
theorem at2To_all (s : Int) (l : List Nd) : at2To s l l.length = at2 s l := by simp [at2To, at2]

/-- What stands fast while reached works. -/
structure RcEnv (w wr : World) (k1 g : Nat) (n s : Int) (A : Option Addr) (c : Nat) (l : List Nd) (a : List Int) : Prop where
  o0 : Own wr w.heap.size 24 [.int .i64 n, .int .i64 s, .slice A l.length c]
  o1 : Own wr (w.heap.size + 1) 24 [.int .i64 0, .int .i64 0, .slice none 0 0]
  oL : Own wr g 3 (ints (lv s l))
  oA : Own wr k1 3 (ints a)
  oC : Own wr (k1 + 1) 36 [.slice (some ⟨k1, 0, none⟩) l.length l.length]
  K : Kept w wr
theorem RcEnv.kept {w wr wr' : World} {k1 g : Nat} {n s : Int} {A : Option Addr} {c : Nat} {l : List Nd} {a : List Int} (h : RcEnv w wr k1 g n s A c l a) (k : Kept wr wr') : RcEnv w wr' k1 g n s A c l a :=
  ⟨h.o0.kept k, h.o1.kept k, h.oL.kept k, h.oA.kept k, h.oC.kept k, kept_trans h.K k⟩
theorem RcEnv.set {w wr : World} {k1 g : Nat} {n s : Int} {A : Option Addr} {c : Nat} {l : List Nd} {a : List Int} (h : RcEnv w wr k1 g n s A c l a) (h1 : w.heap.size + 1 < k1) (h2 : g < k1) (b j : Nat) (hb : k1 + 1 < b) (v : Value) : RcEnv w (wr.setCell ⟨b, j, none⟩ v) k1 g n s A c l a :=
  ⟨h.o0.other (by dsimp only; omega) v, h.o1.other (by dsimp only; omega) v, h.oL.other (by dsimp only; omega) v, h.oA.other (by dsimp only; omega) v, h.oC.other (by dsimp only; omega) v, kept_set h.K (by omega) v⟩
theorem RcEnv.grown {w wr wr' : World} {k1 g : Nat} {n s : Int} {A : Option Addr} {c : Nat} {l : List Nd} {a : List Int} {m : Nat} {v : Value} {cs : List Value} (h : RcEnv w wr k1 g n s A c l a) (h1 : w.heap.size + 1 < k1) (h2 : g < k1) (hr : wr.ownsRow (k1 + 3) 48 3 v m cs) (hg : wr.grownBy wr' v.ownBlock) : RcEnv w wr' k1 g n s A c l a :=
  ⟨h.o0.grown hg (by intro e; have := hr.lt _ e.symm; omega), h.o1.grown hg (by intro e; have := hr.lt _ e.symm; omega), h.oL.grown hg (by intro e; have := hr.lt _ e.symm; omega), h.oA.grown hg (by intro e; have := hr.lt _ e.symm; omega), h.oC.grown hg (by intro e; have := hr.lt _ e.symm; omega), kept_grown h.K hr (by omega) hg⟩

set_option maxRecDepth 100000 in
set_option maxHeartbeats 1000000 in
theorem reached_any (n s : Int) (A : Option Addr) (c : Nat) (l : List Nd) (w : World) (hr : RN w A l) (hv : validB n s l = true) :
    Calls Try.prog 79 #[.agg #[.int .i64 n, .int .i64 s, .slice A l.length c]] w (BrPost n (rstart s l) (rnodes s l) w) := by
  obtain ⟨hi0, hi1, hln, hs⟩ := valid_start hv
  have hmk := make_ints l.length (by omega)
  have a0 := (Own.new w 24 [.int .i64 n, .int .i64 s, .slice A l.length c]).alloc (.cells #[.int .i64 0, .int .i64 0, .slice none 0 0] 24)
  have a1 := Own.new (w.alloc (.cells #[.int .i64 n, .int .i64 s, .slice A l.length c] 24)) 24 [.int .i64 0, .int .i64 0, .slice none 0 0]
  have ka := kept_alloc (kept_alloc (kept_refl w) (.cells #[.int .i64 n, .int .i64 s, .slice A l.length c] 24)) (.cells #[.int .i64 0, .int .i64 0, .slice none 0 0] 24)
  have q0 := a0.cell (j := 0) rfl
  have q1 := a0.cell (j := 1) rfl
  have q2 := a0.cell (j := 2) rfl
  go_enter Try.func79, Try.ntmps79
  go_wp2_with fail
  refine (levels_any n s A c l _ (hr.kept ka) hv).mono ?_
  rintro e w1 ⟨g, rfl, hg, oL, k1⟩
  replace a0 := a0.kept k1
  replace a1 := a1.kept k1
  replace ka := kept_trans ka k1
  have hg1 : w.heap.size + 2 ≤ g := by simpa using hg
  have hg2 : g < w1.heap.size := oL.lt
  clear q0 q1 q2 k1 hg
  have z0 : w.heap.size < w1.heap.size := by omega
  have z1 : w.heap.size + 1 < w1.heap.size := by omega
  have z2 : w.heap.size < w1.heap.size + 1 := by omega
  have z3 : w.heap.size < w1.heap.size + 1 + 1 := by omega
  have q0 := a0.cell (j := 0) rfl
  have q1 := a0.cell (j := 1) rfl
  have q2 := a0.cell (j := 2) rfl
  go_wp2_with fail
  clear hmk q0 q1 q2
  have b0 := ((a0.alloc (.cells (ints (List.replicate l.length 0)).toArray 3)).alloc (.cells #[.slice (some ⟨w1.heap.size, 0, none⟩) l.length l.length] 36)).alloc (.cells #[.int .i64 n, .int .i64 s, .slice none 0 0] 24)
  have b1 := ((a1.alloc (.cells (ints (List.replicate l.length 0)).toArray 3)).alloc (.cells #[.slice (some ⟨w1.heap.size, 0, none⟩) l.length l.length] 36)).alloc (.cells #[.int .i64 n, .int .i64 s, .slice none 0 0] 24)
  have bL := ((oL.alloc (.cells (ints (List.replicate l.length 0)).toArray 3)).alloc (.cells #[.slice (some ⟨w1.heap.size, 0, none⟩) l.length l.length] 36)).alloc (.cells #[.int .i64 n, .int .i64 s, .slice none 0 0] 24)
  have bA := ((Own.new w1 3 (ints (List.replicate l.length 0))).alloc (.cells #[.slice (some ⟨w1.heap.size, 0, none⟩) l.length l.length] 36)).alloc (.cells #[.int .i64 n, .int .i64 s, .slice none 0 0] 24)
  have bC := (Own.new (w1.alloc (.cells (ints (List.replicate l.length 0)).toArray 3)) 36 [.slice (some ⟨w1.heap.size, 0, none⟩) l.length l.length]).alloc (.cells #[.int .i64 n, .int .i64 s, .slice none 0 0] 24)
  have bO := Own.new ((w1.alloc (.cells (ints (List.replicate l.length 0)).toArray 3)).alloc (.cells #[.slice (some ⟨w1.heap.size, 0, none⟩) l.length l.length] 36)) 24 [.int .i64 n, .int .i64 s, .slice none 0 0]
  have bK := kept_alloc (kept_alloc (kept_alloc ka (.cells (ints (List.replicate l.length 0)).toArray 3)) (.cells #[.slice (some ⟨w1.heap.size, 0, none⟩) l.length l.length] 36)) (.cells #[.int .i64 n, .int .i64 s, .slice none 0 0] 24)
  simp only [World.size_alloc] at b1 bC bO
  have E : RcEnv w _ w1.heap.size g n s A c l (List.replicate l.length 0) := ⟨b0, b1, bL, bA, bC, bK⟩
  clear b0 b1 bL bA bC bK a0 a1 oL ka
  go_loopg [6, 25] l.length (fun g' s6 s25 wr => ∃ k : Nat, k ≤ l.length ∧ g' = l.length - k ∧ s6 = .int .i64 (rk s l k) ∧ s25 = .int .i64 k ∧ RcEnv w wr w1.heap.size g n s A c l (at2To s l k) ∧ Own wr (w1.heap.size + 1 + 1) 24 [.int .i64 n, .int .i64 s, .slice none 0 0])
  case atStart => exact ⟨0, by omega, rfl, rfl, rfl, by rw [at2To_zero]; exact E, bO⟩
  case round =>
    clear E bO
    obtain ⟨k, hk, rfl, rfl, rfl, E, oO⟩ := hrel
    have rk0 := rk_nonneg s l k
    have rk1 : rk s l k ≤ k := by have := kept_le s l k; unfold rk; omega
    by_cases hlt : k < l.length
    · have q0 := E.oC.cell (j := 0) rfl
      have q1 := E.oA.int (j := k) (by rw [at2To_length hk]; exact hlt)
      have f1 := E.oA.frozen k
      have q2 := E.oL.int (j := k) (by rw [lv_length]; exact hlt)
      have hne : g ≠ w1.heap.size := by omega
      have E2 : RcEnv w (wr.setCell ⟨w1.heap.size, k, none⟩ (.int .i64 (rk s l k))) w1.heap.size g n s A c l (at2To s l (k + 1)) :=
        ⟨E.o0.other (by dsimp only; omega) _, E.o1.other (by dsimp only; omega) _, E.oL.other (by dsimp only; omega) _, by rw [← at2To_set hlt]; exact E.oA.setInt _ _, E.oC.other (by dsimp only; omega) _, kept_set E.K (by omega) _⟩
      have oO2 := oO.other (a := ⟨w1.heap.size, k, none⟩) (by dsimp only; omega) (.int .i64 (rk s l k))
      have hrs := rk_succ s l k
      unfold hitB at hrs
      by_cases hh : 0 ≤ ia (lv s l) k
      case' pos => rw [decide_eq_true hh, if_pos rfl] at hrs
      case' neg => rw [decide_eq_false hh, if_neg (by simp), Int.add_zero] at hrs
      all_goals
        have HRS := Lib.hid hrs; clear hrs
        go_wp2_with fail
        go_roundg (l.length - (k + 1))
        case rel => exact ⟨k + 1, by omega, rfl, by rw [HRS.out], by go_num, E2, oO2⟩
        case measure => omega
    · have : k = l.length := by omega
      subst this
      rw [at2To_all] at E
      have q0 := E.o0.cell (j := 0) rfl
      have q1 := E.o0.cell (j := 1) rfl
      have q2 := E.o0.cell (j := 2) rfl
      go_wp2_with fail
      have E' := E
      clear E q0 q1 q2 rk0 rk1 hk hlt
      go_loopg [44] l.length (fun g' s44 wr => ∃ (k : Nat) (v : Value), k ≤ l.length ∧ g' = l.length - k ∧ s44 = .int .i64 k ∧ RcEnv w wr w1.heap.size g n s A c l (at2 s l) ∧ Own wr (w1.heap.size + 1 + 1) 24 [.int .i64 n, .int .i64 s, v] ∧ wr.ownsRow (w1.heap.size + 3) 48 3 v (keptL s l k).length (ndCells ((keptL s l k).map (rnode s l))))
      case atStart => exact ⟨0, .slice none 0 0, by omega, rfl, rfl, E', oO, World.ownsRow_nil _ _ _ _⟩
      case round =>
        clear E' oO
        obtain ⟨k, v, hk, rfl, rfl, E, oO, hrow⟩ := hrel
        by_cases hlt : k < l.length
        · obtain ⟨b, off, rfl, hcs⟩ := hr.at_ (k := k) hlt
          obtain ⟨d0, d1, d2⟩ := hcs k hlt
          replace d0 := kept_cell E.K d0
          replace d1 := kept_cell E.K d1
          replace d2 := kept_cell E.K d2
          clear hcs
          have q2 := E.oL.int (j := k) (by rw [lv_length]; exact hlt)
          have zg : g < wr.heap.size := E.oL.lt
          obtain ⟨nn, hnn⟩ : ∃ x, x = rnode s l k := ⟨_, rfl⟩
          by_cases hh : 0 ≤ ia (lv s l) k
          · have hb : hitB s l k = true := decide_eq_true hh
            have hkp : keptL s l (k + 1) = keptL s l k ++ [k] := by rw [kept_succ, if_pos hb]
            have hkl := kept_le s l k
            have HKP := Lib.hid hkp; clear hkp
            have hz := leads_zero hv hlt (hitB_iff.1 hb)
            have ho := leads_one hv hlt (hitB_iff.1 hb)
            clear hb
            go_wp2_with fail
            obtain ⟨W, hW⟩ : ∃ W, W = wr.alloc (.cells #[.int .i64 (nv l k), .int .i64 (nz l k), .int .i64 (no l k)] 48) := ⟨_, rfl⟩
            have KW : Kept wr W := by rw [hW]; exact kept_alloc (kept_refl _) _
            have oN : Own W wr.heap.size 48 [.int .i64 (nv l k), .int .i64 (nz l k), .int .i64 (no l k)] := by rw [hW]; exact Own.new _ _ _
            rw [← hW]
            have n0 := oN.cell (j := 0) rfl
            have n1 := oN.cell (j := 1) rfl
            have n2 := oN.cell (j := 2) rfl
            have hvb : ∀ b, v.ownBlock = some b → w1.heap.size + 3 ≤ b ∧ b < wr.heap.size := fun b hb => hrow.lt b hb
            have sy : w1.heap.size + 3 ≤ wr.heap.size := by have := oO.lt; omega
            replace E := E.kept KW
            replace oO := oO.kept KW
            replace hrow := row_kept hrow KW
            have q1 := oO.cell (j := 2) rfl
            have qC := E.oC.cell (j := 0) rfl
            have sz : w1.heap.size + 3 ≤ W.heap.size := by have := oO.lt; omega
            have g1 := place93_any (nz l k) (at2 s l) (w1.heap.size + 1) w1.heap.size _ _ W.drew (by simp) (cell_drew qC) E.oA.drew (by rw [at2_length]; unfold leads at hz; omega) (by simp; omega)
            have g2 := place93_any (no l k) (at2 s l) (w1.heap.size + 1) w1.heap.size _ _ W.drew (by simp) (cell_drew qC) E.oA.drew (by rw [at2_length]; unfold leads at ho; omega) (by simp; omega)
            have G1 := Lib.hid g1; clear g1
            have G2 := Lib.hid g2; clear g2 hz ho
            have hn1 : nv l k = nn.v := by rw [hnn]; rfl
            have hn2 : pl (at2 s l) (nz l k) = nn.z := by rw [hnn]; rfl
            have hn3 : pl (at2 s l) (no l k) = nn.o := by rw [hnn]; rfl
            have HNN := Lib.hid hnn; clear hnn
            rw [hn2] at G1
            rw [hn3] at G2
            rw [hn1] at oN n0
            clear d0 d1 d2 hW KW hn1 hn2 hn3 q2
            refine region_x (fun w' => w'.cell? ⟨wr.heap.size, 0, none⟩ = some (.int .i64 nn.v) ∧ w'.cell? ⟨wr.heap.size, 1, none⟩ = some (.int .i64 (nz l k)) ∧ w'.cell? ⟨wr.heap.size, 2, none⟩ = some (.int .i64 (no l k)) ∧ w'.cell? ⟨w1.heap.size + 1 + 1, 2, none⟩ = some v) [16] (by kernel_rfl) ?_ (fun hHeld => ?_)
            · exact ⟨n0, n1, n2, q1⟩
            refine x_take (i := 0) (oi := { dst := some 54, op := Op.fieldAddr 24 (Operand.tmp 5) 2, type := 0, pos := "branch.go:288", after := #[], guard := none }) (v := ?_) rfl (by kernel_rfl) (by kernel_rfl) (by kernel_rfl) (by kernel_rfl) (by kernel_rfl) (fun _ _ _ h => h) (Or.inl ⟨rfl, ?_⟩) (by assumption) ?_
            rotate_left
            · (intro w hSw; (try dsimp only at hSw); (try obtain ⟨hSa, hSb⟩ := hSw); (try obtain ⟨hSb, hSc⟩ := hSb); (try obtain ⟨hSc, hSd⟩ := hSc); (try obtain ⟨hSd, hSe⟩ := hSd); (try obtain ⟨hSe, hSf⟩ := hSe); go_simp; try with_reducible rfl)
            try simp only [Act.put, List.setIfInBounds_toArray, List.set_cons_zero, List.set_cons_succ]
            refine x_take (i := 1) (oi := { dst := some 55, op := Op.load 22 (Operand.tmp 54), type := 22, pos := "branch.go:288", after := #[{ on := 0, ground := Ground.data }], guard := none }) (v := ?_) rfl (by kernel_rfl) (by kernel_rfl) (by kernel_rfl) (by kernel_rfl) (by kernel_rfl) (fun _ _ _ h => h) (Or.inl ⟨rfl, ?_⟩) (by assumption) ?_
            rotate_left
            · (intro w hSw; (try dsimp only at hSw); (try obtain ⟨hSa, hSb⟩ := hSw); (try obtain ⟨hSb, hSc⟩ := hSb); (try obtain ⟨hSc, hSd⟩ := hSc); (try obtain ⟨hSd, hSe⟩ := hSd); (try obtain ⟨hSe, hSf⟩ := hSe); go_simp; try with_reducible rfl)
            try simp only [Act.put, List.setIfInBounds_toArray, List.set_cons_zero, List.set_cons_succ]
            refine x_take (i := 2) (oi := { dst := some 56, op := Op.fieldAddr 48 (Operand.tmp 10) 0, type := 0, pos := "branch.go:288", after := #[], guard := none }) (v := ?_) rfl (by kernel_rfl) (by kernel_rfl) (by kernel_rfl) (by kernel_rfl) (by kernel_rfl) (fun _ _ _ h => h) (Or.inl ⟨rfl, ?_⟩) (by assumption) ?_
            rotate_left
            · (intro w hSw; (try dsimp only at hSw); (try obtain ⟨hSa, hSb⟩ := hSw); (try obtain ⟨hSb, hSc⟩ := hSb); (try obtain ⟨hSc, hSd⟩ := hSc); (try obtain ⟨hSd, hSe⟩ := hSd); (try obtain ⟨hSe, hSf⟩ := hSe); go_simp; try with_reducible rfl)
            try simp only [Act.put, List.setIfInBounds_toArray, List.set_cons_zero, List.set_cons_succ]
            refine x_take (i := 3) (oi := { dst := some 57, op := Op.load 3 (Operand.tmp 56), type := 3, pos := "branch.go:288", after := #[{ on := 2, ground := Ground.data }], guard := none }) (v := ?_) rfl (by kernel_rfl) (by kernel_rfl) (by kernel_rfl) (by kernel_rfl) (by kernel_rfl) (fun _ _ _ h => h) (Or.inl ⟨rfl, ?_⟩) (by assumption) ?_
            rotate_left
            · (intro w hSw; (try dsimp only at hSw); (try obtain ⟨hSa, hSb⟩ := hSw); (try obtain ⟨hSb, hSc⟩ := hSb); (try obtain ⟨hSc, hSd⟩ := hSc); (try obtain ⟨hSd, hSe⟩ := hSd); (try obtain ⟨hSe, hSf⟩ := hSe); go_simp; try with_reducible rfl)
            try simp only [Act.put, List.setIfInBounds_toArray, List.set_cons_zero, List.set_cons_succ]
            refine x_take (i := 4) (oi := { dst := some 58, op := Op.move (Operand.tmp 8), type := 94, pos := "branch.go:288", after := #[], guard := none }) (v := ?_) rfl (by kernel_rfl) (by kernel_rfl) (by kernel_rfl) (by kernel_rfl) (by kernel_rfl) (fun _ _ _ h => h) (Or.inl ⟨rfl, ?_⟩) (by assumption) ?_
            rotate_left
            · (intro w hSw; (try dsimp only at hSw); (try obtain ⟨hSa, hSb⟩ := hSw); (try obtain ⟨hSb, hSc⟩ := hSb); (try obtain ⟨hSc, hSd⟩ := hSc); (try obtain ⟨hSd, hSe⟩ := hSd); (try obtain ⟨hSe, hSf⟩ := hSe); go_simp; try with_reducible rfl)
            try simp only [Act.put, List.setIfInBounds_toArray, List.set_cons_zero, List.set_cons_succ]
            refine x_take (i := 5) (oi := { dst := some 59, op := Op.fieldAddr 48 (Operand.tmp 10) 1, type := 0, pos := "branch.go:288", after := #[], guard := none }) (v := ?_) rfl (by kernel_rfl) (by kernel_rfl) (by kernel_rfl) (by kernel_rfl) (by kernel_rfl) (fun _ _ _ h => h) (Or.inl ⟨rfl, ?_⟩) (by assumption) ?_
            rotate_left
            · (intro w hSw; (try dsimp only at hSw); (try obtain ⟨hSa, hSb⟩ := hSw); (try obtain ⟨hSb, hSc⟩ := hSb); (try obtain ⟨hSc, hSd⟩ := hSc); (try obtain ⟨hSd, hSe⟩ := hSd); (try obtain ⟨hSe, hSf⟩ := hSe); go_simp; try with_reducible rfl)
            try simp only [Act.put, List.setIfInBounds_toArray, List.set_cons_zero, List.set_cons_succ]
            refine x_take (i := 6) (oi := { dst := some 60, op := Op.load 3 (Operand.tmp 59), type := 3, pos := "branch.go:288", after := #[{ on := 5, ground := Ground.data }], guard := none }) (v := ?_) rfl (by kernel_rfl) (by kernel_rfl) (by kernel_rfl) (by kernel_rfl) (by kernel_rfl) (fun _ _ _ h => h) (Or.inl ⟨rfl, ?_⟩) (by assumption) ?_
            rotate_left
            · (intro w hSw; (try dsimp only at hSw); (try obtain ⟨hSa, hSb⟩ := hSw); (try obtain ⟨hSb, hSc⟩ := hSb); (try obtain ⟨hSc, hSd⟩ := hSc); (try obtain ⟨hSd, hSe⟩ := hSd); (try obtain ⟨hSe, hSf⟩ := hSe); go_simp; try with_reducible rfl)
            try simp only [Act.put, List.setIfInBounds_toArray, List.set_cons_zero, List.set_cons_succ]
            refine x_take (i := 8) (oi := { dst := some 62, op := Op.move (Operand.tmp 8), type := 94, pos := "branch.go:288", after := #[], guard := none }) (v := ?_) rfl (by kernel_rfl) (by kernel_rfl) (by kernel_rfl) (by kernel_rfl) (by kernel_rfl) (fun _ _ _ h => h) (Or.inl ⟨rfl, ?_⟩) (by assumption) ?_
            rotate_left
            · (intro w hSw; (try dsimp only at hSw); (try obtain ⟨hSa, hSb⟩ := hSw); (try obtain ⟨hSb, hSc⟩ := hSb); (try obtain ⟨hSc, hSd⟩ := hSc); (try obtain ⟨hSd, hSe⟩ := hSd); (try obtain ⟨hSe, hSf⟩ := hSe); go_simp; try with_reducible rfl)
            try simp only [Act.put, List.setIfInBounds_toArray, List.set_cons_zero, List.set_cons_succ]
            refine x_take (i := 9) (oi := { dst := some 63, op := Op.fieldAddr 48 (Operand.tmp 10) 2, type := 0, pos := "branch.go:288", after := #[], guard := none }) (v := ?_) rfl (by kernel_rfl) (by kernel_rfl) (by kernel_rfl) (by kernel_rfl) (by kernel_rfl) (fun _ _ _ h => h) (Or.inl ⟨rfl, ?_⟩) (by assumption) ?_
            rotate_left
            · (intro w hSw; (try dsimp only at hSw); (try obtain ⟨hSa, hSb⟩ := hSw); (try obtain ⟨hSb, hSc⟩ := hSb); (try obtain ⟨hSc, hSd⟩ := hSc); (try obtain ⟨hSd, hSe⟩ := hSd); (try obtain ⟨hSe, hSf⟩ := hSe); go_simp; try with_reducible rfl)
            try simp only [Act.put, List.setIfInBounds_toArray, List.set_cons_zero, List.set_cons_succ]
            refine x_take (i := 10) (oi := { dst := some 64, op := Op.load 3 (Operand.tmp 63), type := 3, pos := "branch.go:288", after := #[{ on := 9, ground := Ground.data }], guard := none }) (v := ?_) rfl (by kernel_rfl) (by kernel_rfl) (by kernel_rfl) (by kernel_rfl) (by kernel_rfl) (fun _ _ _ h => h) (Or.inl ⟨rfl, ?_⟩) (by assumption) ?_
            rotate_left
            · (intro w hSw; (try dsimp only at hSw); (try obtain ⟨hSa, hSb⟩ := hSw); (try obtain ⟨hSb, hSc⟩ := hSb); (try obtain ⟨hSc, hSd⟩ := hSc); (try obtain ⟨hSd, hSe⟩ := hSd); (try obtain ⟨hSe, hSf⟩ := hSe); go_simp; try with_reducible rfl)
            try simp only [Act.put, List.setIfInBounds_toArray, List.set_cons_zero, List.set_cons_succ]
            refine x_one (i := 7) (o := { dst := some 61, op := Op.call { callee := Callee.value (Operand.tmp 58), args := #[Operand.tmp 60], argTypes := #[3] }, type := 3, pos := "branch.go:288", after := #[{ on := 4, ground := Ground.data }, { on := 6, ground := Ground.data }], guard := none }) (by kernel_rfl) rfl (fun K hK => ?_)
            (go_simp; go_at_call 93; refine G1.out.mono ?_; rintro e w5 ⟨rfl, rfl⟩; try dsimp only)
            refine hK.out _ _ ?_ (fun hHeld => ?_)
            · (try dsimp only); first | exact ⟨cell_drew n0, cell_drew n1, cell_drew n2, cell_drew q1⟩ | exact ⟨cell_alloc (cell_drew n0) _, cell_alloc (cell_drew n1) _, cell_alloc (cell_drew n2) _, cell_alloc (cell_drew q1) _⟩ | exact ⟨t0, t1, t2, t3⟩
            clear hK K
            try simp only [Act.put, List.setIfInBounds_toArray, List.set_cons_zero, List.set_cons_succ]
            refine x_one (i := 11) (o := { dst := some 65, op := Op.call { callee := Callee.value (Operand.tmp 62), args := #[Operand.tmp 64], argTypes := #[3] }, type := 3, pos := "branch.go:288", after := #[{ on := 8, ground := Ground.data }, { on := 10, ground := Ground.data }, { on := 7, ground := Ground.chain }], guard := none }) (by kernel_rfl) rfl (fun K hK => ?_)
            (go_simp; go_at_call 93; refine G2.out.mono ?_; rintro e w6 ⟨rfl, rfl⟩; try dsimp only)
            refine hK.out _ _ ?_ (fun hHeld => ?_)
            · (try dsimp only); first | exact ⟨cell_drew n0, cell_drew n1, cell_drew n2, cell_drew q1⟩ | exact ⟨cell_alloc (cell_drew n0) _, cell_alloc (cell_drew n1) _, cell_alloc (cell_drew n2) _, cell_alloc (cell_drew q1) _⟩ | exact ⟨t0, t1, t2, t3⟩
            clear hK K
            try simp only [Act.put, List.setIfInBounds_toArray, List.set_cons_zero, List.set_cons_succ]
            refine x_take (i := 12) (oi := { dst := some 66, op := Op.build 48 #[(0, Operand.tmp 57), (1, Operand.tmp 61), (2, Operand.tmp 65)], type := 48, pos := "branch.go:288", after := #[{ on := 3, ground := Ground.data }, { on := 7, ground := Ground.data }, { on := 11, ground := Ground.data }], guard := none }) (v := ?_) rfl (by kernel_rfl) (by kernel_rfl) (by kernel_rfl) (by kernel_rfl) (by kernel_rfl) (fun _ _ _ h => h) (Or.inl ⟨rfl, ?_⟩) (by assumption) ?_
            rotate_left
            · (intro w hSw; (try dsimp only at hSw); (try obtain ⟨hSa, hSb⟩ := hSw); (try obtain ⟨hSb, hSc⟩ := hSb); (try obtain ⟨hSc, hSd⟩ := hSc); (try obtain ⟨hSd, hSe⟩ := hSd); (try obtain ⟨hSe, hSf⟩ := hSe); go_simp; try with_reducible rfl)
            try simp only [Act.put, List.setIfInBounds_toArray, List.set_cons_zero, List.set_cons_succ]
            refine x_one (i := 13) (o := { dst := some 67, op := Op.buildSlice 22 1 #[(0, Operand.tmp 66)], type := 22, pos := "branch.go:288", after := #[{ on := 12, ground := Ground.data }], guard := none }) (by kernel_rfl) rfl (fun K hK => ?_)
            go_simp
            refine hK.out _ _ ?_ (fun hHeld => ?_)
            · (try dsimp only); first | exact ⟨cell_drew n0, cell_drew n1, cell_drew n2, cell_drew q1⟩ | exact ⟨cell_alloc (cell_drew n0) _, cell_alloc (cell_drew n1) _, cell_alloc (cell_drew n2) _, cell_alloc (cell_drew q1) _⟩ | exact ⟨t0, t1, t2, t3⟩
            clear hK K
            try simp only [Act.put, List.setIfInBounds_toArray, List.set_cons_zero, List.set_cons_succ]
            refine x_one (i := 14) (o := { dst := some 68, op := Op.call { callee := Callee.builtin Builtin.append, args := #[Operand.tmp 55, Operand.tmp 67], argTypes := #[22, 22] }, type := 22, pos := "branch.go:288", after := #[{ on := 1, ground := Ground.data }, { on := 13, ground := Ground.data }, { on := 11, ground := Ground.chain }], guard := none }) (by kernel_rfl) rfl (fun K hK => ?_)
            (refine step_own (w1.heap.size + 3) rfl (.tmp 55) (.tmp 67) 22 48 (.agg #[.int .i64 0, .int .i64 0, .int .i64 0]) 3 24 rfl Try.underlying22 info48 rfl (by omega) (by omega) v (keptL s l k).length 1 1 ⟨W.heap.size, 0, none⟩ (ndCells ((keptL s l k).map (rnode s l))) [.int .i64 nn.v, .int .i64 nn.z, .int .i64 nn.o] rfl rfl rfl (news_rd (Own.new W.drew 48 [.int .i64 nn.v, .int .i64 nn.z, .int .i64 nn.o]).rd) (one_nds [nn]) ((row_kept hrow (kept_drew (kept_refl W))).alloc _) (by simp; omega) (by omega) ?_; intro v8 w8 hr8 hg8 hat8; have E8 := (E.kept (kept_alloc (kept_drew (kept_refl W)) (.cells #[.int .i64 nn.v, .int .i64 nn.z, .int .i64 nn.o] 48))).grown z1 hg2 ((row_kept hrow (kept_drew (kept_refl W))).alloc _) hg8; have p2 := (oO.drew.alloc (.cells #[.int .i64 nn.v, .int .i64 nn.z, .int .i64 nn.o] 48)).grown hg8 (by intro h; have := hvb _ h.symm; omega); have pN := (oN.drew.alloc (.cells #[.int .i64 nn.v, .int .i64 nn.z, .int .i64 nn.o] 48)).grown hg8 (by intro h; have := hvb _ h.symm; omega); have t0 := pN.cell (j := 0) rfl; have t1 := pN.cell (j := 1) rfl; have t2 := pN.cell (j := 2) rfl; have t3 := p2.cell (j := 2) rfl; have t4 := p2.frozen 2; rw [ndCells_snoc] at hr8; obtain ⟨A8, c8, rfl, hr9⟩ := row_form hr8)
            refine hK.out _ _ ?_ (fun hHeld => ?_)
            · (try dsimp only); first | exact ⟨cell_drew n0, cell_drew n1, cell_drew n2, cell_drew q1⟩ | exact ⟨cell_alloc (cell_drew n0) _, cell_alloc (cell_drew n1) _, cell_alloc (cell_drew n2) _, cell_alloc (cell_drew q1) _⟩ | exact ⟨t0, t1, t2, t3⟩
            clear hK K
            try simp only [Act.put, List.setIfInBounds_toArray, List.set_cons_zero, List.set_cons_succ]
            refine x_take (i := 15) (oi := { dst := some 69, op := Op.fieldAddr 24 (Operand.tmp 5) 2, type := 0, pos := "branch.go:288", after := #[{ on := 0, ground := Ground.phase }, { on := 1, ground := Ground.phase }, { on := 2, ground := Ground.phase }, { on := 3, ground := Ground.phase }, { on := 4, ground := Ground.phase }, { on := 5, ground := Ground.phase }, { on := 6, ground := Ground.phase }, { on := 7, ground := Ground.phase }, { on := 8, ground := Ground.phase }, { on := 9, ground := Ground.phase }, { on := 10, ground := Ground.phase }, { on := 11, ground := Ground.phase }, { on := 12, ground := Ground.phase }, { on := 13, ground := Ground.phase }, { on := 14, ground := Ground.phase }], guard := none }) (v := ?_) rfl (by kernel_rfl) (by kernel_rfl) (by kernel_rfl) (by kernel_rfl) (by kernel_rfl) (fun _ _ _ h => h) (Or.inl ⟨rfl, ?_⟩) (by assumption) ?_
            rotate_left
            · (intro w hSw; (try dsimp only at hSw); (try obtain ⟨hSa, hSb⟩ := hSw); (try obtain ⟨hSb, hSc⟩ := hSb); (try obtain ⟨hSc, hSd⟩ := hSc); (try obtain ⟨hSd, hSe⟩ := hSd); (try obtain ⟨hSe, hSf⟩ := hSe); go_simp; try with_reducible rfl)
            try simp only [Act.put, List.setIfInBounds_toArray, List.set_cons_zero, List.set_cons_succ]
            refine x_last (i := 16) (o := { dst := none, op := Op.store 22 (Operand.tmp 69) (Operand.tmp 68), type := 0, pos := "branch.go:288", after := #[{ on := 15, ground := Ground.data }, { on := 14, ground := Ground.data }, { on := 14, ground := Ground.chain }, { on := 0, ground := Ground.phase }, { on := 1, ground := Ground.phase }, { on := 2, ground := Ground.phase }, { on := 3, ground := Ground.phase }, { on := 4, ground := Ground.phase }, { on := 5, ground := Ground.phase }, { on := 6, ground := Ground.phase }, { on := 7, ground := Ground.phase }, { on := 8, ground := Ground.phase }, { on := 9, ground := Ground.phase }, { on := 10, ground := Ground.phase }, { on := 11, ground := Ground.phase }, { on := 12, ground := Ground.phase }, { on := 13, ground := Ground.phase }, { on := 14, ground := Ground.phase }], guard := none }) (by kernel_rfl) rfl (by simp) (fun K hK => ?_)
            go_simp
            refine hK.out _ _ ?_
            clear hK K
            try simp only [Act.put, List.setIfInBounds_toArray, List.set_cons_zero, List.set_cons_succ]
            refine x_done (by kernel_rfl) ?_ _
            have pE := E8.set z1 hg2 (w1.heap.size + 1 + 1) 2 (by omega) (.slice A8 ((keptL s l k).length + 1) c8)
            have pp := p2.set 2 (.slice A8 ((keptL s l k).length + 1) c8)
            have pr := ownsRow_setCell_below hr9 (a := ⟨w1.heap.size + 1 + 1, 2, none⟩) (by dsimp only; omega) (.slice A8 ((keptL s l k).length + 1) c8)
            rw [HNN.out] at pr
            clear hr8 hr9 p2 pN t0 t1 t2 t3 t4 hg8 hat8 E8
            go_wp2_with fail
            go_roundg (l.length - (k + 1))
            case rel => exact ⟨k + 1, _, by omega, rfl, by go_num, pE, pp, by rw [HKP.out]; simpa using pr⟩
            case measure => omega
          · have hb : hitB s l k = false := decide_eq_false hh
            have hkp : keptL s l (k + 1) = keptL s l k := by rw [kept_succ, if_neg (by rw [hb]; simp)]
            have HKP := Lib.hid hkp; clear hkp hb
            have hneg : ia (lv s l) k < 0 := by omega
            have E2 := E.kept (kept_alloc (kept_refl wr) (.cells #[.int .i64 (nv l k), .int .i64 (nz l k), .int .i64 (no l k)] 48))
            have oO2 := oO.alloc (.cells #[.int .i64 (nv l k), .int .i64 (nz l k), .int .i64 (no l k)] 48)
            have hrow2 := row_alloc hrow (.cells #[.int .i64 (nv l k), .int .i64 (nz l k), .int .i64 (no l k)] 48)
            go_wp2_with fail
            go_roundg (l.length - (k + 1))
            case rel => exact ⟨k + 1, v, by omega, rfl, by go_num, E2, oO2, by rw [HKP.out]; exact hrow2⟩
            case measure => omega
        · have : k = l.length := by omega
          subst this
          obtain ⟨A1, c1, rfl, hrow⟩ := row_form hrow
          have q1 := E.o0.cell (j := 1) rfl
          have qC := E.oC.cell (j := 0) rfl
          have p0 := oO.cell (j := 0) rfl
          have p1 := oO.cell (j := 1) rfl
          have p2 := oO.cell (j := 2) rfl
          have f1 := oO.frozen 1
          have e0 := E.o1.cell (j := 0) rfl
          have e1 := E.o1.cell (j := 1) rfl
          have e2 := E.o1.cell (j := 2) rfl
          have g0 := E.o1.frozen 0
          have g1 := E.o1.frozen 1
          have g2 := E.o1.frozen 2
          have C := place93_any s (at2 s l) (w1.heap.size + 1) w1.heap.size _ _ wr (by simp) qC E.oA (by have := leads_start hv; rw [at2_length]; unfold leads at this; omega) (by simp; omega)
          obtain ⟨rs, hrs⟩ : ∃ x, x = rstart s l := ⟨_, rfl⟩
          rw [show pl (at2 s l) s = rs from hrs.symm] at C
          have HC := Lib.hid C; clear C
          have HRS := Lib.hid hrs; clear hrs
          go_wp2_with fail
          refine HC.out.mono ?_
          rintro e w' ⟨rfl, rfl⟩
          go_wp2_with fail
          have E1 := E.set z1 hg2 (w1.heap.size + 1 + 1) 1 (by omega) (.int .i64 rs)
          have o3 := ((E1.o1.set 0 (.int .i64 n)).set 1 (.int .i64 rs)).set 2 (.slice A1 (keptL s l l.length).length c1)
          have pr := ownsRow_setCell_below (ownsRow_setCell_below (ownsRow_setCell_below (ownsRow_setCell_below hrow (a := ⟨w1.heap.size + 1 + 1, 1, none⟩) (by dsimp only; omega) (.int .i64 rs)) (a := ⟨w.heap.size + 1, 0, none⟩) (by dsimp only; omega) (.int .i64 n)) (a := ⟨w.heap.size + 1, 1, none⟩) (by dsimp only; omega) (.int .i64 rs)) (a := ⟨w.heap.size + 1, 2, none⟩) (by dsimp only; omega) (.slice A1 (keptL s l l.length).length c1)
          have pk := kept_set (g := w.heap.size + 1) (j := 2) (kept_set (g := w.heap.size + 1) (j := 1) (kept_set (g := w.heap.size + 1) (j := 0) E1.K (by omega) (.int .i64 n)) (by omega) (.int .i64 rs)) (by omega) (.slice A1 (keptL s l l.length).length c1)
          obtain ⟨W2, hW2⟩ : ∃ W2, W2 = (((wr.setCell ⟨w1.heap.size + 1 + 1, 1, none⟩ (.int .i64 rs)).setCell ⟨w.heap.size + 1, 0, none⟩ (.int .i64 n)).setCell ⟨w.heap.size + 1, 1, none⟩ (.int .i64 rs)).setCell ⟨w.heap.size + 1, 2, none⟩ (.slice A1 (keptL s l l.length).length c1) := ⟨_, rfl⟩
          rw [← hW2] at pr pk o3 ⊢
          clear hW2 q1 p0 p1 p2 e0 e1 e2
          have q0 := o3.cell (j := 0) rfl
          have q1 := o3.cell (j := 1) rfl
          have q2 := o3.cell (j := 2) rfl
          exact bodyPost_ret (v := .agg #[.int .i64 n, .int .i64 rs, .slice A1 (keptL s l l.length).length c1]) (by simp [results, Try.results79, go_sem, q0, q1, q2]) rfl ⟨_, rfl, A1, c1, by unfold rnodes; rw [List.length_map, HRS.out], by unfold rnodes; rw [List.length_map]; exact pr.mono (by omega), pk⟩
end Go.Proofs.Ytinpmdekdfgiiaa
