/- Formula: its closures make memory that is known block by block. -/
import Derived.Test.YtinpmdekdfgiiaaQ1
set_option linter.unusedVariables false
set_option linter.unusedSimpArgs false
namespace Go.Proofs.Ytinpmdekdfgiiaa
open Go.RowKit

/-- Kids in blocks of their own from base on, without spare capacity. -/
inductive TR (w : World) (base : Nat) : Option Addr → Nat → List Fm → Prop
  | nil : TR w base none 0 []
  | one {b : Nat} {A : Option Addr} {c : Nat} {f : Fm} (hb : base ≤ b) (o : Own w b 52 [.int .i64 f.k, .int .i64 f.n, .slice A f.l.length c]) (hl : f.l.length ≤ 9223372036854775807) (hk : TR w base A c f.l) : TR w base (some ⟨b, 0, none⟩) 1 [f]
  | two {b : Nat} {A A2 : Option Addr} {c c2 : Nat} {f g : Fm} (hb : base ≤ b) (o : Own w b 52 [.int .i64 f.k, .int .i64 f.n, .slice A f.l.length c, .int .i64 g.k, .int .i64 g.n, .slice A2 g.l.length c2]) (hl : f.l.length ≤ 9223372036854775807) (hl2 : g.l.length ≤ 9223372036854775807) (hk : TR w base A c f.l) (hk2 : TR w base A2 c2 g.l) : TR w base (some ⟨b, 0, none⟩) 2 [f, g]
theorem TR.rk {w : World} {base : Nat} {A : Option Addr} {c : Nat} {l : List Fm} (h : TR w base A c l) : RK w A l := by
  induction h with
  | nil => exact .nil _
  | one hb o hl _ ih => exact .cons (o.cell (j := 0) rfl) (o.cell (j := 1) rfl) (o.cell (j := 2) rfl) hl ih (.nil _)
  | two hb o hl hl2 _ _ ih ih2 => exact .cons (o.cell (j := 0) rfl) (o.cell (j := 1) rfl) (o.cell (j := 2) rfl) hl ih (.cons (o.cell (j := 3) rfl) (o.cell (j := 4) rfl) (o.cell (j := 5) rfl) hl2 ih2 (.nil _))
theorem TR.mono {w : World} {base base' : Nat} {A : Option Addr} {c : Nat} {l : List Fm} (h : TR w base A c l) (hb' : base' ≤ base) : TR w base' A c l := by
  induction h with
  | nil => exact .nil
  | one hb o hl _ ih => exact .one (Nat.le_trans hb' hb) o hl ih
  | two hb o hl hl2 _ _ ih ih2 => exact .two (Nat.le_trans hb' hb) o hl hl2 ih ih2
theorem TR.kept {w w' : World} {base : Nat} {A : Option Addr} {c : Nat} {l : List Fm} (h : TR w base A c l) (k : Kept w w') : TR w' base A c l := by
  induction h with
  | nil => exact .nil
  | one hb o hl _ ih => exact .one hb (o.kept k) hl ih
  | two hb o hl hl2 _ _ ih ih2 => exact .two hb (o.kept k) hl hl2 ih ih2
theorem TR.set {w : World} {base : Nat} {A : Option Addr} {c : Nat} {l : List Fm} (h : TR w base A c l) {g : Nat} (hg : g < base) (j : Nat) (u : Value) : TR (w.setCell ⟨g, j, none⟩ u) base A c l := by
  induction h with
  | nil => exact .nil
  | one hb o hl _ ih => exact .one hb (o.other (by dsimp only; omega) u) hl ih
  | two hb o hl hl2 _ _ ih ih2 => exact .two hb (o.other (by dsimp only; omega) u) hl hl2 ih ih2

/-- A formula was made. -/
def FtPost (base : Nat) (f : Fm) (w : World) (e : Ending) (w' : World) : Prop := ∃ A c, e = .returned (fmV f A c) ∧ TR w' base A c f.l ∧ Kept w w'

set_option maxRecDepth 100000 in
set_option maxHeartbeats 1000000 in
theorem pair71_tr (base : Nat) (k : Int) (f g : Fm) (A A2 : Option Addr) (c c2 : Nat) (w : World) (hb : base ≤ w.heap.size) (hf : TR w base A c f.l) (hg : TR w base A2 c2 g.l) (lf : f.l.length ≤ 9223372036854775807) (lg : g.l.length ≤ 9223372036854775807) :
    Calls Try.prog 71 #[.int .i64 k, fmV f A c, fmV g A2 c2] w (FtPost base (.mk k 0 [f, g]) w) := by
  unfold fmV
  have HF := Lib.hid hf; have HG := Lib.hid hg; clear hf hg
  have oR := (Own.new ((w.alloc (.cells #[.int .i64 f.k, .int .i64 f.n, .slice A f.l.length c] 52)).alloc (.cells #[.int .i64 g.k, .int .i64 g.n, .slice A2 g.l.length c2] 52)) 52 [.int .i64 k, .int .i64 0, .slice (some ⟨w.heap.size + 1 + 1 + 1, 0, none⟩) 2 2]).alloc (.cells #[.int .i64 f.k, .int .i64 f.n, .slice A f.l.length c, .int .i64 g.k, .int .i64 g.n, .slice A2 g.l.length c2] 52)
  have oS := Own.new (((w.alloc (.cells #[.int .i64 f.k, .int .i64 f.n, .slice A f.l.length c] 52)).alloc (.cells #[.int .i64 g.k, .int .i64 g.n, .slice A2 g.l.length c2] 52)).alloc (.cells #[.int .i64 k, .int .i64 0, .slice (some ⟨w.heap.size + 1 + 1 + 1, 0, none⟩) 2 2] 52)) 52 [.int .i64 f.k, .int .i64 f.n, .slice A f.l.length c, .int .i64 g.k, .int .i64 g.n, .slice A2 g.l.length c2]
  simp only [World.size_alloc] at oR oS
  have q0 := oR.cell (j := 0) rfl
  have q1 := oR.cell (j := 1) rfl
  have q2 := oR.cell (j := 2) rfl
  have K0 := kept_alloc (kept_alloc (kept_alloc (kept_alloc (kept_refl w) (.cells #[.int .i64 f.k, .int .i64 f.n, .slice A f.l.length c] 52)) (.cells #[.int .i64 g.k, .int .i64 g.n, .slice A2 g.l.length c2] 52)) (.cells #[.int .i64 k, .int .i64 0, .slice (some ⟨w.heap.size + 1 + 1 + 1, 0, none⟩) 2 2] 52)) (.cells #[.int .i64 f.k, .int .i64 f.n, .slice A f.l.length c, .int .i64 g.k, .int .i64 g.n, .slice A2 g.l.length c2] 52)
  go_enter Try.func71, Try.ntmps71
  go_wp2_with fail
  refine bodyPost_ret (v := .agg #[.int .i64 k, .int .i64 0, .slice (some ⟨w.heap.size + 1 + 1 + 1, 0, none⟩) 2 2]) (by simp [results, Try.results71, go_sem, q0, q1, q2]) rfl ⟨some ⟨w.heap.size + 1 + 1 + 1, 0, none⟩, 2, rfl, ?_, K0⟩
  exact .two (by omega) oS lf lg (HF.out.kept K0) (HG.out.kept K0)

theorem pairt_red1 (base : Nat) (v : Int) (fo : Fm) (w : World) (A : Option Addr) (c : Nat) (hb : base ≤ w.heap.size) (lo : fo.l.length ≤ 9223372036854775807) (h : TR w base A c fo.l) :
    Calls Try.prog 71 #[.int .i64 3, .agg #[.int .i64 0, .int .i64 v, .slice none 0 0], .agg #[.int .i64 fo.k, .int .i64 fo.n, .slice A fo.l.length c]] w fun e w' => ∃ B cB, e = .returned (.agg #[.int .i64 3, .int .i64 0, .slice B 2 cB]) ∧ TR w' base B cB [.mk 0 v [], fo] ∧ Kept w w' :=
  pair71_tr base 3 (.mk 0 v []) fo none A 0 c w hb .nil h (by simp [Fm.l]) lo
theorem pairt_red2 (base : Nat) (v : Int) (fz : Fm) (w : World) (A B : Option Addr) (c d : Nat) (hb : base ≤ w.heap.size) (lz : fz.l.length ≤ 9223372036854775807) (h : TR w base B c fz.l) (hA : TR w base A d [.mk 0 v []]) :
    Calls Try.prog 71 #[.int .i64 3, .agg #[.int .i64 2, .int .i64 0, .slice A 1 d], .agg #[.int .i64 fz.k, .int .i64 fz.n, .slice B fz.l.length c]] w fun e w' => ∃ B cB, e = .returned (.agg #[.int .i64 3, .int .i64 0, .slice B 2 cB]) ∧ TR w' base B cB [.mk 2 0 [.mk 0 v []], fz] ∧ Kept w w' :=
  pair71_tr base 3 (.mk 2 0 [.mk 0 v []]) fz A B d c w hb hA h (by simp [Fm.l]) lz
theorem pairt_red3 (base : Nat) (l1 l2 : List Fm) (w : World) (A B : Option Addr) (c d : Nat) (hb : base ≤ w.heap.size) (h1 : l1.length = 2) (h2 : l2.length = 2) (hA : TR w base A c l1) (hB : TR w base B d l2) :
    Calls Try.prog 71 #[.int .i64 4, .agg #[.int .i64 3, .int .i64 0, .slice A 2 c], .agg #[.int .i64 3, .int .i64 0, .slice B 2 d]] w fun e w' => ∃ B cB, e = .returned (.agg #[.int .i64 4, .int .i64 0, .slice B 2 cB]) ∧ TR w' base B cB [.mk 3 0 l1, .mk 3 0 l2] ∧ Kept w w' := by
  have h := pair71_tr base 4 (.mk 3 0 l1) (.mk 3 0 l2) A B c d w hb hA hB (by simp [Fm.l]; omega) (by simp [Fm.l]; omega)
  unfold fmV at h
  simp only [Fm.k, Fm.n, Fm.l, h1, h2] at h
  exact h

set_option maxRecDepth 100000 in
set_option maxHeartbeats 2000000 in
theorem of72_tr (n s : Int) (A : Option Addr) (cA : Nat) (l : List Nd) (hv : validB n s l = true) (g1 g2 g3 : Nat) (w0 : World) (o1 : Own w0 g1 24 [.int .i64 n, .int .i64 s, .slice A l.length cA]) (hr : RN w0 A l)
    (e2 : w0.cell? ⟨g2, 0, none⟩ = some (.func (.func 72) #[] #[.pointer (some ⟨g1, 0, none⟩), .pointer (some ⟨g2, 0, none⟩), .pointer (some ⟨g3, 0, none⟩)])) (e3 : w0.cell? ⟨g3, 0, none⟩ = some (.func (.func 71) #[] #[])) :
    ∀ (m : Nat) (c : Int) (w : World), c < l.length → (c = -1 ∨ c = -2 ∨ (0 ≤ c ∧ l.length - c ≤ m)) → Kept w0 w →
    Calls Try.prog 72 #[.int .i64 c, .pointer (some ⟨g1, 0, none⟩), .pointer (some ⟨g2, 0, none⟩), .pointer (some ⟨g3, 0, none⟩)] w (FtPost w.heap.size (tf l c) w) := by
  obtain ⟨hi0, hi1, hln, hs⟩ := valid_start hv
  intro m
  induction m with
  | zero =>
    intro c w hc hm hWK
    have hneg : c = -1 ∨ c = -2 := by omega
    rw [tf_neg l (by omega)]
    have t1 : tfE (-1) = .mk 1 0 [] := rfl
    have t2 : tfE (-2) = .mk 1 1 [] := rfl
    rcases hneg with rfl | rfl
    · rw [t1]
      have oR := Own.new (w.alloc (.cells #[.int .i64 (-1)] 3)) 52 [.int .i64 1, .int .i64 0, .slice none 0 0]
      simp only [World.size_alloc] at oR
      have r0 := oR.cell (j := 0) rfl
      have r1 := oR.cell (j := 1) rfl
      have r2 := oR.cell (j := 2) rfl
      go_enter Try.func72, Try.ntmps72
      go_wp2_with fail
      exact bodyPost_ret (v := .agg #[.int .i64 1, .int .i64 0, .slice none 0 0]) (by simp [results, Try.results72, go_sem, r0, r1, r2]) rfl ⟨none, 0, rfl, .nil, kept_alloc (kept_alloc (kept_refl w) _) _⟩
    · rw [t2]
      have oR := Own.new (w.alloc (.cells #[.int .i64 (-2)] 3)) 52 [.int .i64 1, .int .i64 1, .slice none 0 0]
      simp only [World.size_alloc] at oR
      have r0 := oR.cell (j := 0) rfl
      have r1 := oR.cell (j := 1) rfl
      have r2 := oR.cell (j := 2) rfl
      go_enter Try.func72, Try.ntmps72
      go_wp2_with fail
      exact bodyPost_ret (v := .agg #[.int .i64 1, .int .i64 1, .slice none 0 0]) (by simp [results, Try.results72, go_sem, r0, r1, r2]) rfl ⟨none, 0, rfl, .nil, kept_alloc (kept_alloc (kept_refl w) _) _⟩
  | succ m ih =>
    intro c w hc hm hWK
    by_cases hneg : c = -1 ∨ c = -2
    · rw [tf_neg l (by omega)]
      have t1 : tfE (-1) = .mk 1 0 [] := rfl
      have t2 : tfE (-2) = .mk 1 1 [] := rfl
      rcases hneg with rfl | rfl
      · rw [t1]
        have oR := Own.new (w.alloc (.cells #[.int .i64 (-1)] 3)) 52 [.int .i64 1, .int .i64 0, .slice none 0 0]
        simp only [World.size_alloc] at oR
        have r0 := oR.cell (j := 0) rfl
        have r1 := oR.cell (j := 1) rfl
        have r2 := oR.cell (j := 2) rfl
        go_enter Try.func72, Try.ntmps72
        go_wp2_with fail
        exact bodyPost_ret (v := .agg #[.int .i64 1, .int .i64 0, .slice none 0 0]) (by simp [results, Try.results72, go_sem, r0, r1, r2]) rfl ⟨none, 0, rfl, .nil, kept_alloc (kept_alloc (kept_refl w) _) _⟩
      · rw [t2]
        have oR := Own.new (w.alloc (.cells #[.int .i64 (-2)] 3)) 52 [.int .i64 1, .int .i64 1, .slice none 0 0]
        simp only [World.size_alloc] at oR
        have r0 := oR.cell (j := 0) rfl
        have r1 := oR.cell (j := 1) rfl
        have r2 := oR.cell (j := 2) rfl
        go_enter Try.func72, Try.ntmps72
        go_wp2_with fail
        exact bodyPost_ret (v := .agg #[.int .i64 1, .int .i64 1, .slice none 0 0]) (by simp [results, Try.results72, go_sem, r0, r1, r2]) rfl ⟨none, 0, rfl, .nil, kept_alloc (kept_alloc (kept_refl w) _) _⟩
    obtain ⟨k, rfl⟩ : ∃ k : Nat, c = k := ⟨c.toNat, by omega⟩
    have hk : k < l.length := by omega
    have h := valid_node hv hk
    obtain ⟨b, off, hA, hcells⟩ := RN.at_ hr hk
    obtain ⟨d0, d1, d2⟩ := hcells k hk
    clear hcells
    have q2 := o1.cell (j := 2) rfl
    have c1 := fun (w' : World) (kk : Kept w0 w') => ih (nz l k) w' (by omega) (by omega) kk
    have c2 := fun (w' : World) (kk : Kept w0 w') => ih (no l k) w' (by omega) (by omega) kk
    have V73 := Lib.hid fun (w' : World) (g4 : Nat) (kk : Kept w0 w') (c4 : w'.cell? ⟨g4, 0, none⟩ = some (.int .i64 k)) => var73_any g1 g4 n s A cA l k w' (o1.kept kk) (hr.kept kk) hk hln c4
    have lz := tf_kids l l.length (nz l k)
    have lo := tf_kids l l.length (no l k)
    change (tf l (nz l k)).l.length ≤ _ at lz
    change (tf l (no l k)).l.length ≤ _ at lo
    rw [tf_eq hv hk]
    unfold FtPost fmV at c1 c2
    have C1 := Lib.hid c1; have C2 := Lib.hid c2
    clear c1 c2 ih hm hs
    subst hA
    have hkn : (k : Int) ≠ -1 := by omega
    have hkn2 : (k : Int) ≠ -2 := by omega
    have b1 : ((k : Int) == -1) = false := beq_eq_false_iff_ne.2 hkn
    have b2 : ((k : Int) == -2) = false := beq_eq_false_iff_ne.2 hkn2
    have k0 : (0 : Int) ≤ (k : Int) := by omega
    have k1 : (k : Int) < (l.length : Int) := by omega
    replace q2 := kept_cell hWK q2
    replace d0 := kept_cell hWK d0
    replace d1 := kept_cell hWK d1
    replace d2 := kept_cell hWK d2
    replace e2 := kept_cell hWK e2
    replace e3 := kept_cell hWK e3
    have z1 : g1 < w.heap.size := kept_lt q2
    have z2 : g2 < w.heap.size := kept_lt e2
    have z3 : g3 < w.heap.size := kept_lt e3
    have zb : b < w.heap.size := kept_lt d0
    have o4 := (Own.new w 3 [.int .i64 k]).alloc (.cells #[.int .i64 0, .int .i64 0, .slice none 0 0] 52)
    have o5 := Own.new (w.alloc (.cells #[.int .i64 k] 3)) 52 [.int .i64 0, .int .i64 0, .slice none 0 0]
    simp only [World.size_alloc] at o5
    have KB : Kept w ((w.alloc (.cells #[.int .i64 k] 3)).alloc (.cells #[.int .i64 0, .int .i64 0, .slice none 0 0] 52)) := kept_alloc (kept_alloc (kept_refl w) _) _
    generalize hfz : tf l (nz l k) = fz at *
    generalize hfo : tf l (no l k) = fo at *
    have HFZ := Lib.hid hfz; have HFO := Lib.hid hfo
    clear hfz hfo
    have HV := Lib.hid hv; clear hv h
    by_cases hzo : nz l k = no l k
    · have b3 : (nz l k == no l k) = true := beq_iff_eq.2 hzo
      unfold tfK
      rw [if_pos hzo]
      obtain rfl : fz = fo := by rw [← HFZ.out, ← HFO.out, hzo]
      clear hzo HFZ HFO
      go_enter Try.func72, Try.ntmps72
      go_wp2_with fail
      go_quiet (fail)
      go_wp2_with fail
      obtain ⟨w1, hw1⟩ : ∃ x, x = ((w.alloc (.cells #[.int .i64 k] 3)).alloc (.cells #[.int .i64 0, .int .i64 0, .slice none 0 0] 52)).drewN nq := ⟨_, rfl⟩
      have K9 : Kept ((w.alloc (.cells #[.int .i64 k] 3)).alloc (.cells #[.int .i64 0, .int .i64 0, .slice none 0 0] 52)) w1 := by rw [hw1]; exact below_drewN (kept_refl _) nq
      rw [← hw1]
      have z9 := K9.size
      simp only [World.size_alloc] at z9
      replace o4 := o4.kept K9
      replace o5 := o5.kept K9
      replace KB := kept_trans KB K9
      clear hw1 K9
      replace q2 := kept_cell KB q2
      replace d0 := kept_cell KB d0
      replace d1 := kept_cell KB d1
      replace d2 := kept_cell KB d2
      replace e2 := kept_cell KB e2
      replace e3 := kept_cell KB e3
      have p0 := o4.cell (j := 0) rfl
      refine region_x (fun w' => Kept w1 w') [8] (by kernel_rfl) (kept_drew (kept_refl _)) (fun hHeld => ?_)
      refine x_take (i := 0) (oi := { dst := some 28, op := Op.load 88 (Operand.tmp 2), type := 88, pos := "branch.go:227", after := #[], guard := none }) (v := ?_) rfl (by kernel_rfl) (by kernel_rfl) (by kernel_rfl) (by kernel_rfl) (by kernel_rfl) (fun _ _ _ h => h) (Or.inl ⟨rfl, ?_⟩) (by assumption) ?_
      rotate_left
      · (intro w' hSw; replace q2 := kept_cell hSw q2; replace d0 := kept_cell hSw d0; replace d1 := kept_cell hSw d1; replace d2 := kept_cell hSw d2; replace e2 := kept_cell hSw e2; replace e3 := kept_cell hSw e3; replace p0 := kept_cell hSw p0; go_simp; try with_reducible rfl)
      try simp only [Act.put, List.setIfInBounds_toArray, List.set_cons_zero, List.set_cons_succ]
      refine x_take (i := 1) (oi := { dst := some 29, op := Op.fieldAddr 24 (Operand.tmp 1) 2, type := 0, pos := "branch.go:227", after := #[], guard := none }) (v := ?_) rfl (by kernel_rfl) (by kernel_rfl) (by kernel_rfl) (by kernel_rfl) (by kernel_rfl) (fun _ _ _ h => h) (Or.inl ⟨rfl, ?_⟩) (by assumption) ?_
      rotate_left
      · (intro w' hSw; replace q2 := kept_cell hSw q2; replace d0 := kept_cell hSw d0; replace d1 := kept_cell hSw d1; replace d2 := kept_cell hSw d2; replace e2 := kept_cell hSw e2; replace e3 := kept_cell hSw e3; replace p0 := kept_cell hSw p0; go_simp; try with_reducible rfl)
      try simp only [Act.put, List.setIfInBounds_toArray, List.set_cons_zero, List.set_cons_succ]
      refine x_take (i := 2) (oi := { dst := some 30, op := Op.load 22 (Operand.tmp 29), type := 22, pos := "branch.go:227", after := #[{ on := 1, ground := Ground.data }], guard := none }) (v := ?_) rfl (by kernel_rfl) (by kernel_rfl) (by kernel_rfl) (by kernel_rfl) (by kernel_rfl) (fun _ _ _ h => h) (Or.inl ⟨rfl, ?_⟩) (by assumption) ?_
      rotate_left
      · (intro w' hSw; replace q2 := kept_cell hSw q2; replace d0 := kept_cell hSw d0; replace d1 := kept_cell hSw d1; replace d2 := kept_cell hSw d2; replace e2 := kept_cell hSw e2; replace e3 := kept_cell hSw e3; replace p0 := kept_cell hSw p0; go_simp; try with_reducible rfl)
      try simp only [Act.put, List.setIfInBounds_toArray, List.set_cons_zero, List.set_cons_succ]
      refine x_take (i := 3) (oi := { dst := some 31, op := Op.load 3 (Operand.tmp 4), type := 3, pos := "branch.go:227", after := #[], guard := none }) (v := ?_) rfl (by kernel_rfl) (by kernel_rfl) (by kernel_rfl) (by kernel_rfl) (by kernel_rfl) (fun _ _ _ h => h) (Or.inl ⟨rfl, ?_⟩) (by assumption) ?_
      rotate_left
      · (intro w' hSw; replace q2 := kept_cell hSw q2; replace d0 := kept_cell hSw d0; replace d1 := kept_cell hSw d1; replace d2 := kept_cell hSw d2; replace e2 := kept_cell hSw e2; replace e3 := kept_cell hSw e3; replace p0 := kept_cell hSw p0; go_simp; try with_reducible rfl)
      try simp only [Act.put, List.setIfInBounds_toArray, List.set_cons_zero, List.set_cons_succ]
      refine x_take (i := 4) (oi := { dst := some 32, op := Op.indexAddr 22 (Operand.tmp 30) (Operand.tmp 31), type := 0, pos := "branch.go:227", after := #[{ on := 2, ground := Ground.data }, { on := 3, ground := Ground.data }], guard := none }) (v := ?_) rfl (by kernel_rfl) (by kernel_rfl) (by kernel_rfl) (by kernel_rfl) (by kernel_rfl) (fun _ _ _ h => h) (Or.inl ⟨rfl, ?_⟩) (by assumption) ?_
      rotate_left
      · (intro w' hSw; replace q2 := kept_cell hSw q2; replace d0 := kept_cell hSw d0; replace d1 := kept_cell hSw d1; replace d2 := kept_cell hSw d2; replace e2 := kept_cell hSw e2; replace e3 := kept_cell hSw e3; replace p0 := kept_cell hSw p0; go_simp; try with_reducible rfl)
      try simp only [Act.put, List.setIfInBounds_toArray, List.set_cons_zero, List.set_cons_succ]
      refine x_take (i := 5) (oi := { dst := some 33, op := Op.fieldAddr 48 (Operand.tmp 32) 1, type := 0, pos := "branch.go:227", after := #[{ on := 4, ground := Ground.data }], guard := none }) (v := ?_) rfl (by kernel_rfl) (by kernel_rfl) (by kernel_rfl) (by kernel_rfl) (by kernel_rfl) (fun _ _ _ h => h) (Or.inl ⟨rfl, ?_⟩) (by assumption) ?_
      rotate_left
      · (intro w' hSw; replace q2 := kept_cell hSw q2; replace d0 := kept_cell hSw d0; replace d1 := kept_cell hSw d1; replace d2 := kept_cell hSw d2; replace e2 := kept_cell hSw e2; replace e3 := kept_cell hSw e3; replace p0 := kept_cell hSw p0; go_simp; try with_reducible rfl)
      try simp only [Act.put, List.setIfInBounds_toArray, List.set_cons_zero, List.set_cons_succ]
      refine x_take (i := 6) (oi := { dst := some 34, op := Op.load 3 (Operand.tmp 33), type := 3, pos := "branch.go:227", after := #[{ on := 5, ground := Ground.data }], guard := none }) (v := ?_) rfl (by kernel_rfl) (by kernel_rfl) (by kernel_rfl) (by kernel_rfl) (by kernel_rfl) (fun _ _ _ h => h) (Or.inl ⟨rfl, ?_⟩) (by assumption) ?_
      rotate_left
      · (intro w' hSw; replace q2 := kept_cell hSw q2; replace d0 := kept_cell hSw d0; replace d1 := kept_cell hSw d1; replace d2 := kept_cell hSw d2; replace e2 := kept_cell hSw e2; replace e3 := kept_cell hSw e3; replace p0 := kept_cell hSw p0; go_simp; try with_reducible rfl)
      try simp only [Act.put, List.setIfInBounds_toArray, List.set_cons_zero, List.set_cons_succ]
      refine x_one (i := 7) (o := { dst := some 35, op := Op.call { callee := Callee.value (Operand.tmp 28), args := #[Operand.tmp 34], argTypes := #[3] }, type := 52, pos := "branch.go:227", after := #[{ on := 0, ground := Ground.data }, { on := 6, ground := Ground.data }], guard := none }) (by kernel_rfl) rfl (fun K hK => ?_)
      (go_simp; go_at_call 72; (first | with_reducible refine (C1.out w1.drew (kept_trans (kept_trans hWK KB) hHeld)).mono ?_ | with_reducible refine (C2.out w1.drew (kept_trans (kept_trans hWK KB) hHeld)).mono ?_); rintro e w3 ⟨A3, c3, rfl, rk3, k3⟩; replace rk3 := rk3.mono (show w.heap.size + 2 ≤ _ by have hh := hHeld.size; omega); have KK3 : Kept w1 w3 := kept_trans hHeld k3; have x5 := o5.kept KK3; have f0 := x5.frozen 0; have f1 := x5.frozen 1; have f2 := x5.frozen 2; have y0 := x5.cell (j := 0) rfl; have y1 := x5.cell (j := 1) rfl; have y2 := x5.cell (j := 2) rfl; try dsimp only)
      refine hK.out _ _ ?_ (fun hHeld => ?_)
      · (try dsimp only); repeat (first | assumption | exact kept_refl _ | refine kept_drew ?_ | refine kept_alloc ?_ _ | refine kept_set ?_ (by omega) _)
      clear hK K
      try simp only [Act.put, List.setIfInBounds_toArray, List.set_cons_zero, List.set_cons_succ]
      refine x_last (i := 8) (o := { dst := none, op := Op.store 52 (Operand.tmp 5) (Operand.tmp 35), type := 0, pos := "branch.go:227", after := #[{ on := 7, ground := Ground.data }, { on := 7, ground := Ground.chain }, { on := 0, ground := Ground.phase }, { on := 1, ground := Ground.phase }, { on := 2, ground := Ground.phase }, { on := 3, ground := Ground.phase }, { on := 4, ground := Ground.phase }, { on := 5, ground := Ground.phase }, { on := 6, ground := Ground.phase }, { on := 7, ground := Ground.phase }], guard := none }) (by kernel_rfl) rfl (by simp) (fun K hK => ?_)
      go_simp
      refine hK.out _ _ ?_
      clear hK K
      try simp only [Act.put, List.setIfInBounds_toArray, List.set_cons_zero, List.set_cons_succ]
      refine x_done (by kernel_rfl) ?_ _
      go_wp2_with fail
      have o9 := ((x5.set 0 (.int .i64 fz.k)).set 1 (.int .i64 fz.n)).set 2 (.slice A3 fz.l.length c3)
      have pk := kept_set (g := w.heap.size + 1) (j := 2) (kept_set (g := w.heap.size + 1) (j := 1) (kept_set (g := w.heap.size + 1) (j := 0) (kept_trans KB KK3) (by omega) (.int .i64 fz.k)) (by omega) (.int .i64 fz.n)) (by omega) (.slice A3 fz.l.length c3)
      have rk9 := ((rk3.set (g := w.heap.size + 1) (by omega) 0 (.int .i64 fz.k)).set (g := w.heap.size + 1) (by omega) 1 (.int .i64 fz.n)).set (g := w.heap.size + 1) (by omega) 2 (.slice A3 fz.l.length c3)
      obtain ⟨W9, hW9⟩ : ∃ W9, W9 = ((w3.setCell ⟨w.heap.size + 1, 0, none⟩ (.int .i64 fz.k)).setCell ⟨w.heap.size + 1, 1, none⟩ (.int .i64 fz.n)).setCell ⟨w.heap.size + 1, 2, none⟩ (.slice A3 fz.l.length c3) := ⟨_, rfl⟩
      rw [← hW9] at o9 pk rk9 ⊢
      clear hW9 q2 d0 d1 d2 e2 e3 p0 x5 f0 f1 f2 y0 y1 y2
      have q0 := o9.cell (j := 0) rfl
      have q1 := o9.cell (j := 1) rfl
      have q2 := o9.cell (j := 2) rfl
      exact bodyPost_ret (v := .agg #[.int .i64 fz.k, .int .i64 fz.n, .slice A3 fz.l.length c3]) (by simp [results, Try.results72, go_sem, q0, q1, q2]) rfl ⟨A3, c3, rfl, rk9.mono (by omega), pk⟩
    · have b3 : (nz l k == no l k) = false := beq_eq_false_iff_ne.2 hzo
      unfold tfK
      rw [if_neg hzo]
      go_enter Try.func72, Try.ntmps72
      go_wp2_with fail
      go_quiet (fail)
      go_wp2_with fail
      obtain ⟨w1, hw1⟩ : ∃ x, x = ((w.alloc (.cells #[.int .i64 k] 3)).alloc (.cells #[.int .i64 0, .int .i64 0, .slice none 0 0] 52)).drewN nq := ⟨_, rfl⟩
      have K9 : Kept ((w.alloc (.cells #[.int .i64 k] 3)).alloc (.cells #[.int .i64 0, .int .i64 0, .slice none 0 0] 52)) w1 := by rw [hw1]; exact below_drewN (kept_refl _) nq
      rw [← hw1]
      have z9 := K9.size
      simp only [World.size_alloc] at z9
      replace o4 := o4.kept K9
      replace o5 := o5.kept K9
      replace KB := kept_trans KB K9
      clear hw1 K9
      replace q2 := kept_cell KB q2
      replace d0 := kept_cell KB d0
      replace d1 := kept_cell KB d1
      replace d2 := kept_cell KB d2
      replace e2 := kept_cell KB e2
      replace e3 := kept_cell KB e3
      have p0 := o4.cell (j := 0) rfl
      refine (V73.out _ w.heap.size (kept_trans hWK KB) p0).mono ?_
      rintro e w2 ⟨rfl, k2⟩
      have vS := (Own.new w2 52 [.int .i64 0, .int .i64 (nv l k), .slice none 0 0]).alloc (.cells #[.int .i64 2, .int .i64 0, .slice (some ⟨w2.heap.size, 0, none⟩) 1 1] 52)
      have o7 := Own.new (w2.alloc (.cells #[.int .i64 0, .int .i64 (nv l k), .slice none 0 0] 52)) 52 [.int .i64 2, .int .i64 0, .slice (some ⟨w2.heap.size, 0, none⟩) 1 1]
      simp only [World.size_alloc] at o7
      have K2 : Kept w1 ((w2.alloc (.cells #[.int .i64 0, .int .i64 (nv l k), .slice none 0 0] 52)).alloc (.cells #[.int .i64 2, .int .i64 0, .slice (some ⟨w2.heap.size, 0, none⟩) 1 1] 52)) := kept_alloc (kept_alloc k2 _) _
      go_wp2_with fail
      obtain ⟨W, hW⟩ : ∃ W, W = (w2.alloc (.cells #[.int .i64 0, .int .i64 (nv l k), .slice none 0 0] 52)).alloc (.cells #[.int .i64 2, .int .i64 0, .slice (some ⟨w2.heap.size, 0, none⟩) 1 1] 52) := ⟨_, rfl⟩
      rw [← hW] at vS o7 K2 ⊢
      have z8 := k2.size
      clear hW k2
      have z10 := K2.size
      have RV : TR W (w.heap.size + 2) (some ⟨w2.heap.size, 0, none⟩) 1 [.mk 0 (nv l k) []] := .one (by omega) vS (by simp [Fm.l]) .nil
      have r0 := o7.cell (j := 0) rfl
      have r1 := o7.cell (j := 1) rfl
      have r2 := o7.cell (j := 2) rfl
      replace o5 := o5.kept K2
      replace KB := kept_trans KB K2
      replace q2 := kept_cell K2 q2
      replace d0 := kept_cell K2 d0
      replace d1 := kept_cell K2 d1
      replace d2 := kept_cell K2 d2
      replace e2 := kept_cell K2 e2
      replace e3 := kept_cell K2 e3
      replace p0 := kept_cell K2 p0
      have KA := kept_trans hWK KB
      refine region_x (fun w' => Kept W w') [25] (by kernel_rfl) (kept_drew (kept_refl _)) (fun hHeld => ?_)
      refine x_take (i := 0) (oi := { dst := some 41, op := Op.load 87 (Operand.tmp 3), type := 87, pos := "branch.go:231", after := #[], guard := none }) (v := ?_) rfl (by kernel_rfl) (by kernel_rfl) (by kernel_rfl) (by kernel_rfl) (by kernel_rfl) (fun _ _ _ h => h) (Or.inl ⟨rfl, ?_⟩) (by assumption) ?_
      rotate_left
      · (intro w' hSw; replace q2 := kept_cell hSw q2; replace d0 := kept_cell hSw d0; replace d1 := kept_cell hSw d1; replace d2 := kept_cell hSw d2; replace e2 := kept_cell hSw e2; replace e3 := kept_cell hSw e3; replace p0 := kept_cell hSw p0; replace r0 := kept_cell hSw r0; replace r1 := kept_cell hSw r1; replace r2 := kept_cell hSw r2; go_simp; try with_reducible rfl)
      try simp only [Act.put, List.setIfInBounds_toArray, List.set_cons_zero, List.set_cons_succ]
      refine x_take (i := 1) (oi := { dst := some 42, op := Op.load 87 (Operand.tmp 3), type := 87, pos := "branch.go:231", after := #[], guard := none }) (v := ?_) rfl (by kernel_rfl) (by kernel_rfl) (by kernel_rfl) (by kernel_rfl) (by kernel_rfl) (fun _ _ _ h => h) (Or.inl ⟨rfl, ?_⟩) (by assumption) ?_
      rotate_left
      · (intro w' hSw; replace q2 := kept_cell hSw q2; replace d0 := kept_cell hSw d0; replace d1 := kept_cell hSw d1; replace d2 := kept_cell hSw d2; replace e2 := kept_cell hSw e2; replace e3 := kept_cell hSw e3; replace p0 := kept_cell hSw p0; replace r0 := kept_cell hSw r0; replace r1 := kept_cell hSw r1; replace r2 := kept_cell hSw r2; go_simp; try with_reducible rfl)
      try simp only [Act.put, List.setIfInBounds_toArray, List.set_cons_zero, List.set_cons_succ]
      refine x_take (i := 2) (oi := { dst := some 43, op := Op.move (Operand.tmp 6), type := 89, pos := "branch.go:231", after := #[], guard := none }) (v := ?_) rfl (by kernel_rfl) (by kernel_rfl) (by kernel_rfl) (by kernel_rfl) (by kernel_rfl) (fun _ _ _ h => h) (Or.inl ⟨rfl, ?_⟩) (by assumption) ?_
      rotate_left
      · (intro w' hSw; replace q2 := kept_cell hSw q2; replace d0 := kept_cell hSw d0; replace d1 := kept_cell hSw d1; replace d2 := kept_cell hSw d2; replace e2 := kept_cell hSw e2; replace e3 := kept_cell hSw e3; replace p0 := kept_cell hSw p0; replace r0 := kept_cell hSw r0; replace r1 := kept_cell hSw r1; replace r2 := kept_cell hSw r2; go_simp; try with_reducible rfl)
      try simp only [Act.put, List.setIfInBounds_toArray, List.set_cons_zero, List.set_cons_succ]
      refine x_take (i := 4) (oi := { dst := some 45, op := Op.load 88 (Operand.tmp 2), type := 88, pos := "branch.go:231", after := #[], guard := none }) (v := ?_) rfl (by kernel_rfl) (by kernel_rfl) (by kernel_rfl) (by kernel_rfl) (by kernel_rfl) (fun _ _ _ h => h) (Or.inl ⟨rfl, ?_⟩) (by assumption) ?_
      rotate_left
      · (intro w' hSw; replace q2 := kept_cell hSw q2; replace d0 := kept_cell hSw d0; replace d1 := kept_cell hSw d1; replace d2 := kept_cell hSw d2; replace e2 := kept_cell hSw e2; replace e3 := kept_cell hSw e3; replace p0 := kept_cell hSw p0; replace r0 := kept_cell hSw r0; replace r1 := kept_cell hSw r1; replace r2 := kept_cell hSw r2; go_simp; try with_reducible rfl)
      try simp only [Act.put, List.setIfInBounds_toArray, List.set_cons_zero, List.set_cons_succ]
      refine x_take (i := 5) (oi := { dst := some 46, op := Op.fieldAddr 24 (Operand.tmp 1) 2, type := 0, pos := "branch.go:231", after := #[], guard := none }) (v := ?_) rfl (by kernel_rfl) (by kernel_rfl) (by kernel_rfl) (by kernel_rfl) (by kernel_rfl) (fun _ _ _ h => h) (Or.inl ⟨rfl, ?_⟩) (by assumption) ?_
      rotate_left
      · (intro w' hSw; replace q2 := kept_cell hSw q2; replace d0 := kept_cell hSw d0; replace d1 := kept_cell hSw d1; replace d2 := kept_cell hSw d2; replace e2 := kept_cell hSw e2; replace e3 := kept_cell hSw e3; replace p0 := kept_cell hSw p0; replace r0 := kept_cell hSw r0; replace r1 := kept_cell hSw r1; replace r2 := kept_cell hSw r2; go_simp; try with_reducible rfl)
      try simp only [Act.put, List.setIfInBounds_toArray, List.set_cons_zero, List.set_cons_succ]
      refine x_take (i := 6) (oi := { dst := some 47, op := Op.load 22 (Operand.tmp 46), type := 22, pos := "branch.go:231", after := #[{ on := 5, ground := Ground.data }], guard := none }) (v := ?_) rfl (by kernel_rfl) (by kernel_rfl) (by kernel_rfl) (by kernel_rfl) (by kernel_rfl) (fun _ _ _ h => h) (Or.inl ⟨rfl, ?_⟩) (by assumption) ?_
      rotate_left
      · (intro w' hSw; replace q2 := kept_cell hSw q2; replace d0 := kept_cell hSw d0; replace d1 := kept_cell hSw d1; replace d2 := kept_cell hSw d2; replace e2 := kept_cell hSw e2; replace e3 := kept_cell hSw e3; replace p0 := kept_cell hSw p0; replace r0 := kept_cell hSw r0; replace r1 := kept_cell hSw r1; replace r2 := kept_cell hSw r2; go_simp; try with_reducible rfl)
      try simp only [Act.put, List.setIfInBounds_toArray, List.set_cons_zero, List.set_cons_succ]
      refine x_take (i := 7) (oi := { dst := some 48, op := Op.load 3 (Operand.tmp 4), type := 3, pos := "branch.go:231", after := #[], guard := none }) (v := ?_) rfl (by kernel_rfl) (by kernel_rfl) (by kernel_rfl) (by kernel_rfl) (by kernel_rfl) (fun _ _ _ h => h) (Or.inl ⟨rfl, ?_⟩) (by assumption) ?_
      rotate_left
      · (intro w' hSw; replace q2 := kept_cell hSw q2; replace d0 := kept_cell hSw d0; replace d1 := kept_cell hSw d1; replace d2 := kept_cell hSw d2; replace e2 := kept_cell hSw e2; replace e3 := kept_cell hSw e3; replace p0 := kept_cell hSw p0; replace r0 := kept_cell hSw r0; replace r1 := kept_cell hSw r1; replace r2 := kept_cell hSw r2; go_simp; try with_reducible rfl)
      try simp only [Act.put, List.setIfInBounds_toArray, List.set_cons_zero, List.set_cons_succ]
      refine x_take (i := 8) (oi := { dst := some 49, op := Op.indexAddr 22 (Operand.tmp 47) (Operand.tmp 48), type := 0, pos := "branch.go:231", after := #[{ on := 6, ground := Ground.data }, { on := 7, ground := Ground.data }], guard := none }) (v := ?_) rfl (by kernel_rfl) (by kernel_rfl) (by kernel_rfl) (by kernel_rfl) (by kernel_rfl) (fun _ _ _ h => h) (Or.inl ⟨rfl, ?_⟩) (by assumption) ?_
      rotate_left
      · (intro w' hSw; replace q2 := kept_cell hSw q2; replace d0 := kept_cell hSw d0; replace d1 := kept_cell hSw d1; replace d2 := kept_cell hSw d2; replace e2 := kept_cell hSw e2; replace e3 := kept_cell hSw e3; replace p0 := kept_cell hSw p0; replace r0 := kept_cell hSw r0; replace r1 := kept_cell hSw r1; replace r2 := kept_cell hSw r2; go_simp; try with_reducible rfl)
      try simp only [Act.put, List.setIfInBounds_toArray, List.set_cons_zero, List.set_cons_succ]
      refine x_take (i := 9) (oi := { dst := some 50, op := Op.fieldAddr 48 (Operand.tmp 49) 2, type := 0, pos := "branch.go:231", after := #[{ on := 8, ground := Ground.data }], guard := none }) (v := ?_) rfl (by kernel_rfl) (by kernel_rfl) (by kernel_rfl) (by kernel_rfl) (by kernel_rfl) (fun _ _ _ h => h) (Or.inl ⟨rfl, ?_⟩) (by assumption) ?_
      rotate_left
      · (intro w' hSw; replace q2 := kept_cell hSw q2; replace d0 := kept_cell hSw d0; replace d1 := kept_cell hSw d1; replace d2 := kept_cell hSw d2; replace e2 := kept_cell hSw e2; replace e3 := kept_cell hSw e3; replace p0 := kept_cell hSw p0; replace r0 := kept_cell hSw r0; replace r1 := kept_cell hSw r1; replace r2 := kept_cell hSw r2; go_simp; try with_reducible rfl)
      try simp only [Act.put, List.setIfInBounds_toArray, List.set_cons_zero, List.set_cons_succ]
      refine x_take (i := 10) (oi := { dst := some 51, op := Op.load 3 (Operand.tmp 50), type := 3, pos := "branch.go:231", after := #[{ on := 9, ground := Ground.data }], guard := none }) (v := ?_) rfl (by kernel_rfl) (by kernel_rfl) (by kernel_rfl) (by kernel_rfl) (by kernel_rfl) (fun _ _ _ h => h) (Or.inl ⟨rfl, ?_⟩) (by assumption) ?_
      rotate_left
      · (intro w' hSw; replace q2 := kept_cell hSw q2; replace d0 := kept_cell hSw d0; replace d1 := kept_cell hSw d1; replace d2 := kept_cell hSw d2; replace e2 := kept_cell hSw e2; replace e3 := kept_cell hSw e3; replace p0 := kept_cell hSw p0; replace r0 := kept_cell hSw r0; replace r1 := kept_cell hSw r1; replace r2 := kept_cell hSw r2; go_simp; try with_reducible rfl)
      try simp only [Act.put, List.setIfInBounds_toArray, List.set_cons_zero, List.set_cons_succ]
      refine x_take (i := 13) (oi := { dst := some 54, op := Op.load 87 (Operand.tmp 3), type := 87, pos := "branch.go:231", after := #[], guard := none }) (v := ?_) rfl (by kernel_rfl) (by kernel_rfl) (by kernel_rfl) (by kernel_rfl) (by kernel_rfl) (fun _ _ _ h => h) (Or.inl ⟨rfl, ?_⟩) (by assumption) ?_
      rotate_left
      · (intro w' hSw; replace q2 := kept_cell hSw q2; replace d0 := kept_cell hSw d0; replace d1 := kept_cell hSw d1; replace d2 := kept_cell hSw d2; replace e2 := kept_cell hSw e2; replace e3 := kept_cell hSw e3; replace p0 := kept_cell hSw p0; replace r0 := kept_cell hSw r0; replace r1 := kept_cell hSw r1; replace r2 := kept_cell hSw r2; go_simp; try with_reducible rfl)
      try simp only [Act.put, List.setIfInBounds_toArray, List.set_cons_zero, List.set_cons_succ]
      refine x_take (i := 14) (oi := { dst := some 55, op := Op.load 52 (Operand.tmp 7), type := 52, pos := "branch.go:231", after := #[], guard := none }) (v := ?_) rfl (by kernel_rfl) (by kernel_rfl) (by kernel_rfl) (by kernel_rfl) (by kernel_rfl) (fun _ _ _ h => h) (Or.inl ⟨rfl, ?_⟩) (by assumption) ?_
      rotate_left
      · (intro w' hSw; replace q2 := kept_cell hSw q2; replace d0 := kept_cell hSw d0; replace d1 := kept_cell hSw d1; replace d2 := kept_cell hSw d2; replace e2 := kept_cell hSw e2; replace e3 := kept_cell hSw e3; replace p0 := kept_cell hSw p0; replace r0 := kept_cell hSw r0; replace r1 := kept_cell hSw r1; replace r2 := kept_cell hSw r2; go_simp; try with_reducible rfl)
      try simp only [Act.put, List.setIfInBounds_toArray, List.set_cons_zero, List.set_cons_succ]
      refine x_take (i := 15) (oi := { dst := some 56, op := Op.load 88 (Operand.tmp 2), type := 88, pos := "branch.go:231", after := #[], guard := none }) (v := ?_) rfl (by kernel_rfl) (by kernel_rfl) (by kernel_rfl) (by kernel_rfl) (by kernel_rfl) (fun _ _ _ h => h) (Or.inl ⟨rfl, ?_⟩) (by assumption) ?_
      rotate_left
      · (intro w' hSw; replace q2 := kept_cell hSw q2; replace d0 := kept_cell hSw d0; replace d1 := kept_cell hSw d1; replace d2 := kept_cell hSw d2; replace e2 := kept_cell hSw e2; replace e3 := kept_cell hSw e3; replace p0 := kept_cell hSw p0; replace r0 := kept_cell hSw r0; replace r1 := kept_cell hSw r1; replace r2 := kept_cell hSw r2; go_simp; try with_reducible rfl)
      try simp only [Act.put, List.setIfInBounds_toArray, List.set_cons_zero, List.set_cons_succ]
      refine x_take (i := 16) (oi := { dst := some 57, op := Op.fieldAddr 24 (Operand.tmp 1) 2, type := 0, pos := "branch.go:231", after := #[], guard := none }) (v := ?_) rfl (by kernel_rfl) (by kernel_rfl) (by kernel_rfl) (by kernel_rfl) (by kernel_rfl) (fun _ _ _ h => h) (Or.inl ⟨rfl, ?_⟩) (by assumption) ?_
      rotate_left
      · (intro w' hSw; replace q2 := kept_cell hSw q2; replace d0 := kept_cell hSw d0; replace d1 := kept_cell hSw d1; replace d2 := kept_cell hSw d2; replace e2 := kept_cell hSw e2; replace e3 := kept_cell hSw e3; replace p0 := kept_cell hSw p0; replace r0 := kept_cell hSw r0; replace r1 := kept_cell hSw r1; replace r2 := kept_cell hSw r2; go_simp; try with_reducible rfl)
      try simp only [Act.put, List.setIfInBounds_toArray, List.set_cons_zero, List.set_cons_succ]
      refine x_take (i := 17) (oi := { dst := some 58, op := Op.load 22 (Operand.tmp 57), type := 22, pos := "branch.go:231", after := #[{ on := 16, ground := Ground.data }], guard := none }) (v := ?_) rfl (by kernel_rfl) (by kernel_rfl) (by kernel_rfl) (by kernel_rfl) (by kernel_rfl) (fun _ _ _ h => h) (Or.inl ⟨rfl, ?_⟩) (by assumption) ?_
      rotate_left
      · (intro w' hSw; replace q2 := kept_cell hSw q2; replace d0 := kept_cell hSw d0; replace d1 := kept_cell hSw d1; replace d2 := kept_cell hSw d2; replace e2 := kept_cell hSw e2; replace e3 := kept_cell hSw e3; replace p0 := kept_cell hSw p0; replace r0 := kept_cell hSw r0; replace r1 := kept_cell hSw r1; replace r2 := kept_cell hSw r2; go_simp; try with_reducible rfl)
      try simp only [Act.put, List.setIfInBounds_toArray, List.set_cons_zero, List.set_cons_succ]
      refine x_take (i := 18) (oi := { dst := some 59, op := Op.load 3 (Operand.tmp 4), type := 3, pos := "branch.go:231", after := #[], guard := none }) (v := ?_) rfl (by kernel_rfl) (by kernel_rfl) (by kernel_rfl) (by kernel_rfl) (by kernel_rfl) (fun _ _ _ h => h) (Or.inl ⟨rfl, ?_⟩) (by assumption) ?_
      rotate_left
      · (intro w' hSw; replace q2 := kept_cell hSw q2; replace d0 := kept_cell hSw d0; replace d1 := kept_cell hSw d1; replace d2 := kept_cell hSw d2; replace e2 := kept_cell hSw e2; replace e3 := kept_cell hSw e3; replace p0 := kept_cell hSw p0; replace r0 := kept_cell hSw r0; replace r1 := kept_cell hSw r1; replace r2 := kept_cell hSw r2; go_simp; try with_reducible rfl)
      try simp only [Act.put, List.setIfInBounds_toArray, List.set_cons_zero, List.set_cons_succ]
      refine x_take (i := 19) (oi := { dst := some 60, op := Op.indexAddr 22 (Operand.tmp 58) (Operand.tmp 59), type := 0, pos := "branch.go:231", after := #[{ on := 17, ground := Ground.data }, { on := 18, ground := Ground.data }], guard := none }) (v := ?_) rfl (by kernel_rfl) (by kernel_rfl) (by kernel_rfl) (by kernel_rfl) (by kernel_rfl) (fun _ _ _ h => h) (Or.inl ⟨rfl, ?_⟩) (by assumption) ?_
      rotate_left
      · (intro w' hSw; replace q2 := kept_cell hSw q2; replace d0 := kept_cell hSw d0; replace d1 := kept_cell hSw d1; replace d2 := kept_cell hSw d2; replace e2 := kept_cell hSw e2; replace e3 := kept_cell hSw e3; replace p0 := kept_cell hSw p0; replace r0 := kept_cell hSw r0; replace r1 := kept_cell hSw r1; replace r2 := kept_cell hSw r2; go_simp; try with_reducible rfl)
      try simp only [Act.put, List.setIfInBounds_toArray, List.set_cons_zero, List.set_cons_succ]
      refine x_take (i := 20) (oi := { dst := some 61, op := Op.fieldAddr 48 (Operand.tmp 60) 1, type := 0, pos := "branch.go:231", after := #[{ on := 19, ground := Ground.data }], guard := none }) (v := ?_) rfl (by kernel_rfl) (by kernel_rfl) (by kernel_rfl) (by kernel_rfl) (by kernel_rfl) (fun _ _ _ h => h) (Or.inl ⟨rfl, ?_⟩) (by assumption) ?_
      rotate_left
      · (intro w' hSw; replace q2 := kept_cell hSw q2; replace d0 := kept_cell hSw d0; replace d1 := kept_cell hSw d1; replace d2 := kept_cell hSw d2; replace e2 := kept_cell hSw e2; replace e3 := kept_cell hSw e3; replace p0 := kept_cell hSw p0; replace r0 := kept_cell hSw r0; replace r1 := kept_cell hSw r1; replace r2 := kept_cell hSw r2; go_simp; try with_reducible rfl)
      try simp only [Act.put, List.setIfInBounds_toArray, List.set_cons_zero, List.set_cons_succ]
      refine x_take (i := 21) (oi := { dst := some 62, op := Op.load 3 (Operand.tmp 61), type := 3, pos := "branch.go:231", after := #[{ on := 20, ground := Ground.data }], guard := none }) (v := ?_) rfl (by kernel_rfl) (by kernel_rfl) (by kernel_rfl) (by kernel_rfl) (by kernel_rfl) (fun _ _ _ h => h) (Or.inl ⟨rfl, ?_⟩) (by assumption) ?_
      rotate_left
      · (intro w' hSw; replace q2 := kept_cell hSw q2; replace d0 := kept_cell hSw d0; replace d1 := kept_cell hSw d1; replace d2 := kept_cell hSw d2; replace e2 := kept_cell hSw e2; replace e3 := kept_cell hSw e3; replace p0 := kept_cell hSw p0; replace r0 := kept_cell hSw r0; replace r1 := kept_cell hSw r1; replace r2 := kept_cell hSw r2; go_simp; try with_reducible rfl)
      try simp only [Act.put, List.setIfInBounds_toArray, List.set_cons_zero, List.set_cons_succ]
      refine x_one (i := 3) (o := { dst := some 44, op := Op.call { callee := Callee.value (Operand.tmp 43), args := #[], argTypes := #[] }, type := 52, pos := "branch.go:231", after := #[{ on := 2, ground := Ground.data }], guard := none }) (by kernel_rfl) rfl (fun K hK => ?_)
      (go_simp; go_at_call 73; with_reducible refine (V73.out _ w.heap.size (kept_trans KA hHeld) (kept_cell hHeld p0)).mono ?_; rintro e w3 ⟨rfl, k3⟩; have KK3 : Kept W w3 := kept_trans hHeld k3; try dsimp only)
      refine hK.out _ _ ?_ (fun hHeld => ?_)
      · (try dsimp only); repeat (first | assumption | exact kept_refl _ | refine kept_drew ?_ | refine kept_alloc ?_ _ | refine kept_set ?_ (by omega) _)
      clear hK K
      try simp only [Act.put, List.setIfInBounds_toArray, List.set_cons_zero, List.set_cons_succ]
      refine x_one (i := 11) (o := { dst := some 52, op := Op.call { callee := Callee.value (Operand.tmp 45), args := #[Operand.tmp 51], argTypes := #[3] }, type := 52, pos := "branch.go:231", after := #[{ on := 4, ground := Ground.data }, { on := 10, ground := Ground.data }, { on := 3, ground := Ground.chain }], guard := none }) (by kernel_rfl) rfl (fun K hK => ?_)
      (go_simp; go_at_call 72; with_reducible refine (C2.out _ (kept_trans KA hHeld)).mono ?_; rintro e w4 ⟨Ao, co, rfl, rko, k4⟩; replace rko := rko.mono (show w.heap.size + 2 ≤ _ by have hh := hHeld.size; omega); have KK4 : Kept W w4 := kept_trans hHeld k4; try dsimp only)
      refine hK.out _ _ ?_ (fun hHeld => ?_)
      · (try dsimp only); repeat (first | assumption | exact kept_refl _ | refine kept_drew ?_ | refine kept_alloc ?_ _ | refine kept_set ?_ (by omega) _)
      clear hK K
      try simp only [Act.put, List.setIfInBounds_toArray, List.set_cons_zero, List.set_cons_succ]
      refine x_one (i := 12) (o := { dst := some 53, op := Op.call { callee := Callee.value (Operand.tmp 42), args := #[Operand.const (Value.int IntKind.i64 3), Operand.tmp 44, Operand.tmp 52], argTypes := #[3, 52, 52] }, type := 52, pos := "branch.go:231", after := #[{ on := 1, ground := Ground.data }, { on := 3, ground := Ground.data }, { on := 11, ground := Ground.data }, { on := 11, ground := Ground.chain }], guard := none }) (by kernel_rfl) rfl (fun K hK => ?_)
      (go_simp; go_at_call 71; with_reducible refine (pairt_red1 (w.heap.size + 2) (nv l k) fo _ Ao co (by have hh := hHeld.size; omega) lo (rko.kept (by first | exact kept_refl _ | exact kept_drew (kept_refl _)))).mono ?_; rintro e w5 ⟨Bp, cp, rfl, rkp, k5⟩; have KK5 : Kept W w5 := kept_trans hHeld k5; try dsimp only)
      refine hK.out _ _ ?_ (fun hHeld => ?_)
      · (try dsimp only); repeat (first | assumption | exact kept_refl _ | refine kept_drew ?_ | refine kept_alloc ?_ _ | refine kept_set ?_ (by omega) _)
      clear hK K
      try simp only [Act.put, List.setIfInBounds_toArray, List.set_cons_zero, List.set_cons_succ]
      refine x_one (i := 22) (o := { dst := some 63, op := Op.call { callee := Callee.value (Operand.tmp 56), args := #[Operand.tmp 62], argTypes := #[3] }, type := 52, pos := "branch.go:231", after := #[{ on := 15, ground := Ground.data }, { on := 21, ground := Ground.data }, { on := 12, ground := Ground.chain }], guard := none }) (by kernel_rfl) rfl (fun K hK => ?_)
      (go_simp; go_at_call 72; with_reducible refine (C1.out _ (kept_trans KA hHeld)).mono ?_; rintro e w6 ⟨Az, cz, rfl, rkz, k6⟩; replace rkz := rkz.mono (show w.heap.size + 2 ≤ _ by have hh := hHeld.size; omega); have KK6 : Kept W w6 := kept_trans hHeld k6; try dsimp only)
      refine hK.out _ _ ?_ (fun hHeld => ?_)
      · (try dsimp only); repeat (first | assumption | exact kept_refl _ | refine kept_drew ?_ | refine kept_alloc ?_ _ | refine kept_set ?_ (by omega) _)
      clear hK K
      try simp only [Act.put, List.setIfInBounds_toArray, List.set_cons_zero, List.set_cons_succ]
      refine x_one (i := 23) (o := { dst := some 64, op := Op.call { callee := Callee.value (Operand.tmp 54), args := #[Operand.const (Value.int IntKind.i64 3), Operand.tmp 55, Operand.tmp 63], argTypes := #[3, 52, 52] }, type := 52, pos := "branch.go:231", after := #[{ on := 13, ground := Ground.data }, { on := 14, ground := Ground.data }, { on := 22, ground := Ground.data }, { on := 22, ground := Ground.chain }], guard := none }) (by kernel_rfl) rfl (fun K hK => ?_)
      (go_simp; go_at_call 71; with_reducible refine (pairt_red2 (w.heap.size + 2) (nv l k) fz _ _ Az cz 1 (by have hh := hHeld.size; omega) lz (rkz.kept (by first | exact kept_refl _ | exact kept_drew (kept_refl _))) (RV.kept hHeld)).mono ?_; rintro e w7 ⟨Bq, cq, rfl, rkq, k7⟩; have KK7 : Kept W w7 := kept_trans hHeld k7; try dsimp only)
      refine hK.out _ _ ?_ (fun hHeld => ?_)
      · (try dsimp only); repeat (first | assumption | exact kept_refl _ | refine kept_drew ?_ | refine kept_alloc ?_ _ | refine kept_set ?_ (by omega) _)
      clear hK K
      try simp only [Act.put, List.setIfInBounds_toArray, List.set_cons_zero, List.set_cons_succ]
      refine x_one (i := 24) (o := { dst := some 65, op := Op.call { callee := Callee.value (Operand.tmp 41), args := #[Operand.const (Value.int IntKind.i64 4), Operand.tmp 53, Operand.tmp 64], argTypes := #[3, 52, 52] }, type := 52, pos := "branch.go:231", after := #[{ on := 0, ground := Ground.data }, { on := 12, ground := Ground.data }, { on := 23, ground := Ground.data }, { on := 23, ground := Ground.chain }], guard := none }) (by kernel_rfl) rfl (fun K hK => ?_)
      (go_simp; go_at_call 71; with_reducible refine (pairt_red3 (w.heap.size + 2) [.mk 0 (nv l k) [], fo] [.mk 2 0 [.mk 0 (nv l k) []], fz] _ Bp Bq cp cq (by have hh := hHeld.size; omega) rfl rfl (rkp.kept (kept_trans k6 k7)) rkq).mono ?_; rintro e w8 ⟨Br, cr, rfl, rkr, k8⟩; have KK8 : Kept W w8 := kept_trans hHeld k8; have x5 := o5.kept KK8; have f0 := x5.frozen 0; have f1 := x5.frozen 1; have f2 := x5.frozen 2; have y0 := x5.cell (j := 0) rfl; have y1 := x5.cell (j := 1) rfl; have y2 := x5.cell (j := 2) rfl; try dsimp only)
      refine hK.out _ _ ?_ (fun hHeld => ?_)
      · (try dsimp only); repeat (first | assumption | exact kept_refl _ | refine kept_drew ?_ | refine kept_alloc ?_ _ | refine kept_set ?_ (by omega) _)
      clear hK K
      try simp only [Act.put, List.setIfInBounds_toArray, List.set_cons_zero, List.set_cons_succ]
      refine x_last (i := 25) (o := { dst := none, op := Op.store 52 (Operand.tmp 5) (Operand.tmp 65), type := 0, pos := "branch.go:231", after := #[{ on := 24, ground := Ground.data }, { on := 24, ground := Ground.chain }, { on := 0, ground := Ground.phase }, { on := 1, ground := Ground.phase }, { on := 2, ground := Ground.phase }, { on := 3, ground := Ground.phase }, { on := 4, ground := Ground.phase }, { on := 5, ground := Ground.phase }, { on := 6, ground := Ground.phase }, { on := 7, ground := Ground.phase }, { on := 8, ground := Ground.phase }, { on := 9, ground := Ground.phase }, { on := 10, ground := Ground.phase }, { on := 11, ground := Ground.phase }, { on := 12, ground := Ground.phase }, { on := 13, ground := Ground.phase }, { on := 14, ground := Ground.phase }, { on := 15, ground := Ground.phase }, { on := 16, ground := Ground.phase }, { on := 17, ground := Ground.phase }, { on := 18, ground := Ground.phase }, { on := 19, ground := Ground.phase }, { on := 20, ground := Ground.phase }, { on := 21, ground := Ground.phase }, { on := 22, ground := Ground.phase }, { on := 23, ground := Ground.phase }, { on := 24, ground := Ground.phase }], guard := none }) (by kernel_rfl) rfl (by simp) (fun K hK => ?_)
      go_simp
      refine hK.out _ _ ?_
      clear hK K
      try simp only [Act.put, List.setIfInBounds_toArray, List.set_cons_zero, List.set_cons_succ]
      refine x_done (by kernel_rfl) ?_ _
      go_wp2_with fail
      have o9 := ((x5.set 0 (.int .i64 4)).set 1 (.int .i64 0)).set 2 (.slice Br 2 cr)
      have pk := kept_set (g := w.heap.size + 1) (j := 2) (kept_set (g := w.heap.size + 1) (j := 1) (kept_set (g := w.heap.size + 1) (j := 0) (kept_trans KB KK8) (by omega) (.int .i64 4)) (by omega) (.int .i64 0)) (by omega) (.slice Br 2 cr)
      have rk9 := ((rkr.set (g := w.heap.size + 1) (by omega) 0 (.int .i64 4)).set (g := w.heap.size + 1) (by omega) 1 (.int .i64 0)).set (g := w.heap.size + 1) (by omega) 2 (.slice Br 2 cr)
      obtain ⟨W9, hW9⟩ : ∃ W9, W9 = ((w8.setCell ⟨w.heap.size + 1, 0, none⟩ (.int .i64 4)).setCell ⟨w.heap.size + 1, 1, none⟩ (.int .i64 0)).setCell ⟨w.heap.size + 1, 2, none⟩ (.slice Br 2 cr) := ⟨_, rfl⟩
      rw [← hW9] at o9 pk rk9 ⊢
      clear hW9 q2 d0 d1 d2 e2 e3 p0 x5 f0 f1 f2 y0 y1 y2
      have q0 := o9.cell (j := 0) rfl
      have q1 := o9.cell (j := 1) rfl
      have q2 := o9.cell (j := 2) rfl
      exact bodyPost_ret (v := .agg #[.int .i64 4, .int .i64 0, .slice Br 2 cr]) (by simp [results, Try.results72, go_sem, q0, q1, q2]) rfl ⟨Br, cr, rfl, rk9.mono (by omega), pk⟩
end Go.Proofs.Ytinpmdekdfgiiaa
