/- Formulas: Few, values and weights, in the reference. -/
import Derived.Test.YtikfeemmjfoffaaDoorY5
import Derived.Test.YtikfeemmjfoffaaDoorLib6
set_option linter.unusedVariables false
set_option linter.unusedSimpArgs false
namespace Go.Proofs.YtikfeemmjfoffaaDoor
open Go.RowKit

def xs (x : List Bool) (k : Nat) : Bool := ba x k

set_option maxRecDepth 100000 in
set_option maxHeartbeats 1000000 in
theorem few35_any (most : Int) (f : Fm) (B : Option Addr) (cB : Nat) (w : World) (hm0 : 0 ≤ most) (hm1 : most ≤ 1000000) (hr : RK w B [f]) :
    Calls Tryd.prog 22 #[.int .i64 most, .slice B 1 cB] w fun e w' => e = .returned (.bool (decide ((cntF f : Int) ≤ most))) ∧ Kept w w' := by
  obtain ⟨b, off, rfl, hk⟩ := hr.at_ (by simp)
  have hk0 := hk 0 (by simp)
  rw [kd_zero, Nat.zero_mul, Nat.add_zero] at hk0
  obtain ⟨d0, d1, ⟨A', c', d2, rk⟩, dl⟩ := hk0
  have C := weigh_any most hm0 hm1 (cntF f) f A' c' 0 w (Nat.le_refl _) dl rk (by omega) (by omega)
  unfold fmV at C
  rw [Int.zero_add] at C
  obtain ⟨v, hv⟩ : ∃ v, v = min (cntF f : Int) (most + 1) := ⟨_, rfl⟩
  rw [← hv] at C
  have HC := Lib.hid C; clear C hk hr
  have hdec : decide ((cntF f : Int) ≤ most) = decide (v ≤ most) := by
    by_cases h : (cntF f : Int) ≤ most
    · rw [decide_eq_true h, decide_eq_true (by omega)]
    · rw [decide_eq_false h, decide_eq_false (by omega)]
  rw [hdec]
  have hv0 : 0 ≤ v := by omega
  have hm : decide ((0 : Int) ≤ most) = true := decide_eq_true hm0
  clear hdec hv
  go_enter Tryd.func22, Tryd.ntmps22
  go_wp2_with fail
  go_loopg [5, 6] 1 (fun g' s5 s6 wr => (g' = 1 ∧ s6 = .int .i64 0 ∧ s5 = .int .i64 0 ∧ w = wr) ∨ (g' = 0 ∧ s6 = .int .i64 1 ∧ s5 = .int .i64 v ∧ Kept w wr))
  case atStart => exact .inl ⟨rfl, rfl, rfl, rfl⟩
  case round =>
    rcases hrel with ⟨rfl, rfl, rfl, rfl⟩ | ⟨rfl, rfl, rfl, K⟩
    · go_wp2_with fail
      refine HC.out.mono ?_
      rintro e w1 ⟨rfl, k⟩
      go_wp2_with fail
      go_roundg 0
      case rel => exact .inr ⟨rfl, rfl, rfl, k⟩
      case measure => omega
    · cases hd : decide (v ≤ most)
      all_goals
        go_wp2_with fail
        go_ret
        exact ⟨ret_bool (by simp_all), K⟩

theorem fm_cases {f : Fm} (h : shpF f = true) : (∃ n, f = .mk 0 n [] ∧ 0 ≤ n ∧ n < 16) ∨ (f = .mk 1 0 [] ∨ f = .mk 1 1 []) ∨ (∃ g, f = .mk 2 0 [g] ∧ shpF g = true) ∨ ∃ k g h, (k = 3 ∨ k = 4 ∨ k = 5) ∧ f = .mk k 0 [g, h] ∧ shpF g = true ∧ shpF h = true := by
  rw [shpF_eq, Bool.and_eq_true] at h
  obtain ⟨hs, hn⟩ := h
  cases f with
  | mk k n l =>
    have hc := node_cases hn
    simp only [Fm.k, Fm.n, Fm.l] at hc hs
    rcases hc with ⟨rfl, n0, n1, m0⟩ | ⟨rfl, n1, m0⟩ | ⟨rfl, rfl, m1⟩ | ⟨k3, rfl, m2⟩
    · obtain rfl := List.eq_nil_of_length_eq_zero m0
      exact .inl ⟨n, rfl, n0, n1⟩
    · obtain rfl := List.eq_nil_of_length_eq_zero m0
      rcases n1 with rfl | rfl
      · exact .inr (.inl (.inl rfl))
      · exact .inr (.inl (.inr rfl))
    · match l, m1 with
      | [g], _ =>
        rw [shpL, Bool.and_eq_true] at hs
        exact .inr (.inr (.inl ⟨g, rfl, hs.1⟩))
    · match l, m2 with
      | [g, h], _ =>
        rw [shpL, shpL, Bool.and_eq_true, Bool.and_eq_true] at hs
        exact .inr (.inr (.inr ⟨k, g, h, k3, rfl, hs.1, hs.2.1⟩))
theorem rk_one {w : World} {A : Option Addr} {g : Fm} (h : RK w A [g]) : ∃ b off, A = some ⟨b, off, none⟩ ∧ KidAt w b off g := by
  obtain ⟨b, off, e, hk⟩ := h.at_ (by simp)
  have := hk 0 (by simp)
  rw [kd_zero, Nat.zero_mul, Nat.add_zero] at this
  exact ⟨b, off, e, this⟩
theorem rk_two {w : World} {A : Option Addr} {g h : Fm} (hr : RK w A [g, h]) : ∃ b off, A = some ⟨b, off, none⟩ ∧ KidAt w b off g ∧ KidAt w b (off + 3) h := by
  obtain ⟨b, off, e, hk⟩ := hr.at_ (by simp)
  have h0 := hk 0 (by simp)
  have h1 := hk 1 (by simp)
  rw [kd_zero, Nat.zero_mul, Nat.add_zero] at h0
  rw [kd_succ, kd_zero, Nat.one_mul] at h1
  exact ⟨b, off, e, h0, h1⟩
theorem cnt_one {k n : Int} {g : Fm} : cntF (.mk k n [g]) = 1 + cntF g := by simp [cntF, cntL]
theorem cnt_two {k n : Int} {g h : Fm} : cntF (.mk k n [g, h]) = 1 + cntF g + cntF h := by simp [cntF, cntL]; omega
theorem inp_one {k n : Int} {g : Fm} : inpF g ≤ inpF (.mk k n [g]) := by simp only [inpF, inpL]; omega
theorem inp_two {k n : Int} {g h : Fm} : inpF g ≤ inpF (.mk k n [g, h]) ∧ inpF h ≤ inpF (.mk k n [g, h]) := by simp only [inpF, inpL]; omega

set_option maxRecDepth 100000 in
set_option maxHeartbeats 1000000 in
theorem reval39_any (X : Option Addr) (x : List Bool) (cx : Nat) (hmx : x.length ≤ 140737488355328) : ∀ (N : Nat) (f : Fm) (A : Option Addr) (c : Nat) (w : World), cntF f ≤ N → shpF f = true → inpF f ≤ x.length → RK w A f.l → Rd w X (bools x) →
    Calls Tryd.prog 27 #[fmV f A c, .slice X x.length cx] w fun e w' => e = .returned (.bool (evF (xs x) f)) ∧ Kept w w' := by
  intro N
  induction N with
  | zero => intro f A c w h; have := cntF_pos f; omega
  | succ N ih =>
    intro f A c w hc hs hi hr hX
    have HX := Lib.hid hX; clear hX
    have C := fun (g : Fm) (A' : Option Addr) (c' : Nat) (w' : World) (k : Kept w w') (h1 : cntF g ≤ N) (h2 : shpF g = true) (h3 : inpF g ≤ x.length) (rk : RK w' A' g.l) => ih g A' c' w' h1 h2 h3 rk (HX.out.kept k)
    unfold fmV at C
    have HC := Lib.hid C; clear C ih
    rcases fm_cases hs with ⟨n, rfl, n0, n1⟩ | (rfl | rfl) | ⟨g, rfl, sg⟩ | ⟨k, g, h, hk, rfl, sg, sh⟩
    · change Calls Tryd.prog 27 #[.agg #[.int .i64 0, .int .i64 n, .slice A 0 c], .slice X x.length cx] w _
      have hn : n < x.length := by simp only [inpF, inpL] at hi; simp at hi; omega
      obtain ⟨bx, ox, rfl, hx⟩ := HX.out.bool (k := n.toNat) (by omega)
      have K0 : Kept w (w.alloc (.cells #[.int .i64 0, .int .i64 n, .slice A 0 c] 48)) := kept_alloc (kept_refl w) _
      have x0 := hx n.toNat (by omega)
      have zx : bx < w.heap.size := kept_lt (hx n.toNat (by omega))
      clear hx HC hi hs hc hr
      go_enter Tryd.func27, Tryd.ntmps27
      go_wp2_with fail
      go_ret
      exact ⟨ret_bool (by rw [ev_var _ rfl]; rfl), K0⟩
    · change Calls Tryd.prog 27 #[.agg #[.int .i64 1, .int .i64 0, .slice A 0 c], .slice X x.length cx] w _
      clear HC hi hs hc hr
      go_enter Tryd.func27, Tryd.ntmps27
      go_wp2_with fail
      go_ret
      exact ⟨ret_bool (by rw [ev_const _ rfl]; rfl), kept_alloc (kept_refl w) _⟩
    · change Calls Tryd.prog 27 #[.agg #[.int .i64 1, .int .i64 1, .slice A 0 c], .slice X x.length cx] w _
      clear HC hi hs hc hr
      go_enter Tryd.func27, Tryd.ntmps27
      go_wp2_with fail
      go_ret
      exact ⟨ret_bool (by rw [ev_const _ rfl]; rfl), kept_alloc (kept_refl w) _⟩
    · change Calls Tryd.prog 27 #[.agg #[.int .i64 2, .int .i64 0, .slice A 1 c], .slice X x.length cx] w _
      obtain ⟨b, off, rfl, hk⟩ := rk_one hr
      have K0 : Kept w (w.alloc (.cells #[.int .i64 2, .int .i64 0, .slice (some ⟨b, off, none⟩) 1 c] 48)) := kept_alloc (kept_refl w) _
      obtain ⟨d0, d1, ⟨A', c', d2, rk⟩, dl⟩ := hk.kept K0
      have C := HC.out g A' c' _ K0 (by rw [cnt_one] at hc; omega) sg (by have := inp_one (k := 2) (n := 0) (g := g); omega) rk
      have HCC := Lib.hid C
      clear C HC hi hs hc hr hk
      go_enter Tryd.func27, Tryd.ntmps27
      go_wp2_with fail
      refine HCC.out.mono ?_
      rintro e w1 ⟨rfl, k1⟩
      go_wp2_with fail
      go_ret
      exact ⟨ret_bool (by rw [ev_not (f := .mk 2 0 [g]) _ rfl rfl]; rfl), kept_trans K0 k1⟩
    · change Calls Tryd.prog 27 #[.agg #[.int .i64 k, .int .i64 0, .slice A 2 c], .slice X x.length cx] w _
      obtain ⟨b, off, rfl, hkg, hkh⟩ := rk_two hr
      have K0 : Kept w (w.alloc (.cells #[.int .i64 k, .int .i64 0, .slice (some ⟨b, off, none⟩) 2 c] 48)) := kept_alloc (kept_refl w) _
      have o0 := Own.new w 48 [.int .i64 k, .int .i64 0, .slice (some ⟨b, off, none⟩) 2 c]
      obtain ⟨d0, d1, ⟨A', c', d2, rk⟩, dl⟩ := hkg.kept K0
      obtain ⟨e0, e1, ⟨A2, c2, e2, rk2⟩, el⟩ := hkh.kept K0
      have hi2 := inp_two (k := k) (n := 0) (g := g) (h := h)
      have C1 := fun (w' : World) (kk : Kept (w.alloc (.cells #[.int .i64 k, .int .i64 0, .slice (some ⟨b, off, none⟩) 2 c] 48)) w') => HC.out g A' c' w' (kept_trans K0 kk) (by rw [cnt_two] at hc; omega) sg (by omega) (rk.kept kk)
      have C2 := fun (w' : World) (kk : Kept (w.alloc (.cells #[.int .i64 k, .int .i64 0, .slice (some ⟨b, off, none⟩) 2 c] 48)) w') => HC.out h A2 c2 w' (kept_trans K0 kk) (by rw [cnt_two] at hc; omega) sh (by omega) (rk2.kept kk)
      have he : appB k (evF (xs x) g) (evF (xs x) h) = evF (xs x) (.mk k 0 [g, h]) := by
        rcases hk with rfl | rfl | rfl
        · rw [ev_and (f := .mk 3 0 [g, h]) _ rfl rfl]; rfl
        · rw [ev_or (f := .mk 4 0 [g, h]) _ rfl rfl]; rfl
        · rw [ev_xor (f := .mk 5 0 [g, h]) _ rfl rfl]; rfl
      have HE := Lib.hid he
      have b0 : (k == 0) = false := beq_eq_false_iff_ne.2 (by omega)
      have b1 : (k == 1) = false := beq_eq_false_iff_ne.2 (by omega)
      have b2 : (k == 2) = false := beq_eq_false_iff_ne.2 (by omega)
      obtain ⟨W, hW⟩ : ∃ W, W = w.alloc (.cells #[.int .i64 k, .int .i64 0, .slice (some ⟨b, off, none⟩) 2 c] 48) := ⟨_, rfl⟩
      rw [← hW] at C1 C2 K0 o0 d0 d1 d2 e0 e1 e2
      have HC1 := Lib.hid C1; have HC2 := Lib.hid C2
      have q0 := o0.cell (j := 0) rfl
      have q1 := o0.cell (j := 1) rfl
      have q2 := o0.cell (j := 2) rfl
      have HW := Lib.hid hW
      clear C1 C2 HC hi hi2 hs hc hr he hk hkg hkh rk rk2 hW
      go_enter Tryd.func27, Tryd.ntmps27
      go_wp2_with fail
      rw [← HW.out]
      refine region_x (fun w' => Kept W w') [] (by kernel_rfl) (kept_drew (kept_refl _)) (fun hHeld => ?_)
      refine x_take (i := 0) (oi := { dst := some 28, op := Op.fieldAddr 48 (Operand.tmp 2) 0, type := 0, pos := "ref.go:123", after := #[], guard := none }) (v := ?_) rfl (by kernel_rfl) (by kernel_rfl) (by kernel_rfl) (by kernel_rfl) (by kernel_rfl) (fun _ _ _ h => h) (Or.inl ⟨rfl, ?_⟩) (by assumption) ?_
      rotate_left
      · (intro w' hSw; replace q0 := kept_cell hSw q0; replace q1 := kept_cell hSw q1; replace q2 := kept_cell hSw q2; replace d0 := kept_cell hSw d0; replace d1 := kept_cell hSw d1; replace d2 := kept_cell hSw d2; replace e0 := kept_cell hSw e0; replace e1 := kept_cell hSw e1; replace e2 := kept_cell hSw e2; go_simp; try with_reducible rfl)
      try simp only [Act.put, List.setIfInBounds_toArray, List.set_cons_zero, List.set_cons_succ]
      refine x_take (i := 1) (oi := { dst := some 29, op := Op.load 3 (Operand.tmp 28), type := 3, pos := "ref.go:123", after := #[{ on := 0, ground := Ground.data }], guard := none }) (v := ?_) rfl (by kernel_rfl) (by kernel_rfl) (by kernel_rfl) (by kernel_rfl) (by kernel_rfl) (fun _ _ _ h => h) (Or.inl ⟨rfl, ?_⟩) (by assumption) ?_
      rotate_left
      · (intro w' hSw; replace q0 := kept_cell hSw q0; replace q1 := kept_cell hSw q1; replace q2 := kept_cell hSw q2; replace d0 := kept_cell hSw d0; replace d1 := kept_cell hSw d1; replace d2 := kept_cell hSw d2; replace e0 := kept_cell hSw e0; replace e1 := kept_cell hSw e1; replace e2 := kept_cell hSw e2; go_simp; try with_reducible rfl)
      try simp only [Act.put, List.setIfInBounds_toArray, List.set_cons_zero, List.set_cons_succ]
      refine x_take (i := 2) (oi := { dst := some 30, op := Op.fieldAddr 48 (Operand.tmp 2) 2, type := 0, pos := "ref.go:123", after := #[], guard := none }) (v := ?_) rfl (by kernel_rfl) (by kernel_rfl) (by kernel_rfl) (by kernel_rfl) (by kernel_rfl) (fun _ _ _ h => h) (Or.inl ⟨rfl, ?_⟩) (by assumption) ?_
      rotate_left
      · (intro w' hSw; replace q0 := kept_cell hSw q0; replace q1 := kept_cell hSw q1; replace q2 := kept_cell hSw q2; replace d0 := kept_cell hSw d0; replace d1 := kept_cell hSw d1; replace d2 := kept_cell hSw d2; replace e0 := kept_cell hSw e0; replace e1 := kept_cell hSw e1; replace e2 := kept_cell hSw e2; go_simp; try with_reducible rfl)
      try simp only [Act.put, List.setIfInBounds_toArray, List.set_cons_zero, List.set_cons_succ]
      refine x_take (i := 3) (oi := { dst := some 31, op := Op.load 46 (Operand.tmp 30), type := 46, pos := "ref.go:123", after := #[{ on := 2, ground := Ground.data }], guard := none }) (v := ?_) rfl (by kernel_rfl) (by kernel_rfl) (by kernel_rfl) (by kernel_rfl) (by kernel_rfl) (fun _ _ _ h => h) (Or.inl ⟨rfl, ?_⟩) (by assumption) ?_
      rotate_left
      · (intro w' hSw; replace q0 := kept_cell hSw q0; replace q1 := kept_cell hSw q1; replace q2 := kept_cell hSw q2; replace d0 := kept_cell hSw d0; replace d1 := kept_cell hSw d1; replace d2 := kept_cell hSw d2; replace e0 := kept_cell hSw e0; replace e1 := kept_cell hSw e1; replace e2 := kept_cell hSw e2; go_simp; try with_reducible rfl)
      try simp only [Act.put, List.setIfInBounds_toArray, List.set_cons_zero, List.set_cons_succ]
      refine x_take (i := 4) (oi := { dst := some 32, op := Op.indexAddr 46 (Operand.tmp 31) (Operand.const (Value.int IntKind.i64 0)), type := 0, pos := "ref.go:123", after := #[{ on := 3, ground := Ground.data }], guard := none }) (v := ?_) rfl (by kernel_rfl) (by kernel_rfl) (by kernel_rfl) (by kernel_rfl) (by kernel_rfl) (fun _ _ _ h => h) (Or.inl ⟨rfl, ?_⟩) (by assumption) ?_
      rotate_left
      · (intro w' hSw; replace q0 := kept_cell hSw q0; replace q1 := kept_cell hSw q1; replace q2 := kept_cell hSw q2; replace d0 := kept_cell hSw d0; replace d1 := kept_cell hSw d1; replace d2 := kept_cell hSw d2; replace e0 := kept_cell hSw e0; replace e1 := kept_cell hSw e1; replace e2 := kept_cell hSw e2; go_simp; try with_reducible rfl)
      try simp only [Act.put, List.setIfInBounds_toArray, List.set_cons_zero, List.set_cons_succ]
      refine x_take (i := 5) (oi := { dst := some 33, op := Op.load 48 (Operand.tmp 32), type := 48, pos := "ref.go:123", after := #[{ on := 4, ground := Ground.data }], guard := none }) (v := ?_) rfl (by kernel_rfl) (by kernel_rfl) (by kernel_rfl) (by kernel_rfl) (by kernel_rfl) (fun _ _ _ h => h) (Or.inl ⟨rfl, ?_⟩) (by assumption) ?_
      rotate_left
      · (intro w' hSw; replace q0 := kept_cell hSw q0; replace q1 := kept_cell hSw q1; replace q2 := kept_cell hSw q2; replace d0 := kept_cell hSw d0; replace d1 := kept_cell hSw d1; replace d2 := kept_cell hSw d2; replace e0 := kept_cell hSw e0; replace e1 := kept_cell hSw e1; replace e2 := kept_cell hSw e2; go_simp; try with_reducible rfl)
      try simp only [Act.put, List.setIfInBounds_toArray, List.set_cons_zero, List.set_cons_succ]
      refine x_take (i := 6) (oi := { dst := some 34, op := Op.move (Operand.tmp 1), type := 49, pos := "ref.go:123", after := #[], guard := none }) (v := ?_) rfl (by kernel_rfl) (by kernel_rfl) (by kernel_rfl) (by kernel_rfl) (by kernel_rfl) (fun _ _ _ h => h) (Or.inl ⟨rfl, ?_⟩) (by assumption) ?_
      rotate_left
      · (intro w' hSw; replace q0 := kept_cell hSw q0; replace q1 := kept_cell hSw q1; replace q2 := kept_cell hSw q2; replace d0 := kept_cell hSw d0; replace d1 := kept_cell hSw d1; replace d2 := kept_cell hSw d2; replace e0 := kept_cell hSw e0; replace e1 := kept_cell hSw e1; replace e2 := kept_cell hSw e2; go_simp; try with_reducible rfl)
      try simp only [Act.put, List.setIfInBounds_toArray, List.set_cons_zero, List.set_cons_succ]
      refine x_take (i := 8) (oi := { dst := some 36, op := Op.fieldAddr 48 (Operand.tmp 2) 2, type := 0, pos := "ref.go:123", after := #[], guard := none }) (v := ?_) rfl (by kernel_rfl) (by kernel_rfl) (by kernel_rfl) (by kernel_rfl) (by kernel_rfl) (fun _ _ _ h => h) (Or.inl ⟨rfl, ?_⟩) (by assumption) ?_
      rotate_left
      · (intro w' hSw; replace q0 := kept_cell hSw q0; replace q1 := kept_cell hSw q1; replace q2 := kept_cell hSw q2; replace d0 := kept_cell hSw d0; replace d1 := kept_cell hSw d1; replace d2 := kept_cell hSw d2; replace e0 := kept_cell hSw e0; replace e1 := kept_cell hSw e1; replace e2 := kept_cell hSw e2; go_simp; try with_reducible rfl)
      try simp only [Act.put, List.setIfInBounds_toArray, List.set_cons_zero, List.set_cons_succ]
      refine x_take (i := 9) (oi := { dst := some 37, op := Op.load 46 (Operand.tmp 36), type := 46, pos := "ref.go:123", after := #[{ on := 8, ground := Ground.data }], guard := none }) (v := ?_) rfl (by kernel_rfl) (by kernel_rfl) (by kernel_rfl) (by kernel_rfl) (by kernel_rfl) (fun _ _ _ h => h) (Or.inl ⟨rfl, ?_⟩) (by assumption) ?_
      rotate_left
      · (intro w' hSw; replace q0 := kept_cell hSw q0; replace q1 := kept_cell hSw q1; replace q2 := kept_cell hSw q2; replace d0 := kept_cell hSw d0; replace d1 := kept_cell hSw d1; replace d2 := kept_cell hSw d2; replace e0 := kept_cell hSw e0; replace e1 := kept_cell hSw e1; replace e2 := kept_cell hSw e2; go_simp; try with_reducible rfl)
      try simp only [Act.put, List.setIfInBounds_toArray, List.set_cons_zero, List.set_cons_succ]
      refine x_take (i := 10) (oi := { dst := some 38, op := Op.indexAddr 46 (Operand.tmp 37) (Operand.const (Value.int IntKind.i64 1)), type := 0, pos := "ref.go:123", after := #[{ on := 9, ground := Ground.data }], guard := none }) (v := ?_) rfl (by kernel_rfl) (by kernel_rfl) (by kernel_rfl) (by kernel_rfl) (by kernel_rfl) (fun _ _ _ h => h) (Or.inl ⟨rfl, ?_⟩) (by assumption) ?_
      rotate_left
      · (intro w' hSw; replace q0 := kept_cell hSw q0; replace q1 := kept_cell hSw q1; replace q2 := kept_cell hSw q2; replace d0 := kept_cell hSw d0; replace d1 := kept_cell hSw d1; replace d2 := kept_cell hSw d2; replace e0 := kept_cell hSw e0; replace e1 := kept_cell hSw e1; replace e2 := kept_cell hSw e2; go_simp; try with_reducible rfl)
      try simp only [Act.put, List.setIfInBounds_toArray, List.set_cons_zero, List.set_cons_succ]
      refine x_take (i := 11) (oi := { dst := some 39, op := Op.load 48 (Operand.tmp 38), type := 48, pos := "ref.go:123", after := #[{ on := 10, ground := Ground.data }], guard := none }) (v := ?_) rfl (by kernel_rfl) (by kernel_rfl) (by kernel_rfl) (by kernel_rfl) (by kernel_rfl) (fun _ _ _ h => h) (Or.inl ⟨rfl, ?_⟩) (by assumption) ?_
      rotate_left
      · (intro w' hSw; replace q0 := kept_cell hSw q0; replace q1 := kept_cell hSw q1; replace q2 := kept_cell hSw q2; replace d0 := kept_cell hSw d0; replace d1 := kept_cell hSw d1; replace d2 := kept_cell hSw d2; replace e0 := kept_cell hSw e0; replace e1 := kept_cell hSw e1; replace e2 := kept_cell hSw e2; go_simp; try with_reducible rfl)
      try simp only [Act.put, List.setIfInBounds_toArray, List.set_cons_zero, List.set_cons_succ]
      refine x_take (i := 12) (oi := { dst := some 40, op := Op.move (Operand.tmp 1), type := 49, pos := "ref.go:123", after := #[], guard := none }) (v := ?_) rfl (by kernel_rfl) (by kernel_rfl) (by kernel_rfl) (by kernel_rfl) (by kernel_rfl) (fun _ _ _ h => h) (Or.inl ⟨rfl, ?_⟩) (by assumption) ?_
      rotate_left
      · (intro w' hSw; replace q0 := kept_cell hSw q0; replace q1 := kept_cell hSw q1; replace q2 := kept_cell hSw q2; replace d0 := kept_cell hSw d0; replace d1 := kept_cell hSw d1; replace d2 := kept_cell hSw d2; replace e0 := kept_cell hSw e0; replace e1 := kept_cell hSw e1; replace e2 := kept_cell hSw e2; go_simp; try with_reducible rfl)
      try simp only [Act.put, List.setIfInBounds_toArray, List.set_cons_zero, List.set_cons_succ]
      refine x_one (i := 7) (o := { dst := some 35, op := Op.call { callee := Callee.value (Operand.func 27), args := #[Operand.tmp 33, Operand.tmp 34], argTypes := #[48, 49] }, type := 4, pos := "ref.go:123", after := #[{ on := 5, ground := Ground.data }, { on := 6, ground := Ground.data }], guard := none }) (by kernel_rfl) rfl (fun K hK => ?_)
      (go_simp; go_at_call 27; refine (HC1.out _ hHeld).mono ?_; rintro e w3 ⟨rfl, k3⟩; have KK3 : Kept W w3 := kept_trans hHeld k3; try dsimp only)
      refine hK.out _ _ ?_ (fun hHeld => ?_)
      · (try dsimp only); repeat (first | assumption | exact kept_refl _ | refine kept_drew ?_ | refine kept_alloc ?_ _ | refine kept_set ?_ (by omega) _)
      clear hK K
      try simp only [Act.put, List.setIfInBounds_toArray, List.set_cons_zero, List.set_cons_succ]
      refine x_one (i := 13) (o := { dst := some 41, op := Op.call { callee := Callee.value (Operand.func 27), args := #[Operand.tmp 39, Operand.tmp 40], argTypes := #[48, 49] }, type := 4, pos := "ref.go:123", after := #[{ on := 11, ground := Ground.data }, { on := 12, ground := Ground.data }, { on := 7, ground := Ground.chain }], guard := none }) (by kernel_rfl) rfl (fun K hK => ?_)
      (go_simp; go_at_call 27; refine (HC2.out _ hHeld).mono ?_; rintro e w4 ⟨rfl, k4⟩; have KK4 : Kept W w4 := kept_trans KK3 k4; try dsimp only)
      refine hK.out _ _ ?_ (fun hHeld => ?_)
      · (try dsimp only); repeat (first | assumption | exact kept_refl _ | refine kept_drew ?_ | refine kept_alloc ?_ _ | refine kept_set ?_ (by omega) _)
      clear hK K
      try simp only [Act.put, List.setIfInBounds_toArray, List.set_cons_zero, List.set_cons_succ]
      refine x_call (i := 14) (oi := { dst := some 42, op := Op.call { callee := Callee.value (Operand.func 47), args := #[Operand.tmp 29, Operand.tmp 35, Operand.tmp 41], argTypes := #[3, 4, 4] }, type := 4, pos := "ref.go:123", after := #[{ on := 1, ground := Ground.data }, { on := 7, ground := Ground.data }, { on := 13, ground := Ground.data }, { on := 13, ground := Ground.chain }], guard := none }) (v := _) rfl (by kernel_rfl) (by kernel_rfl) (by kernel_rfl) (by kernel_rfl) (by kernel_rfl) (fun _ _ _ h => h) rfl 47 _ ?_ (fun w' hSw => apply77_any k (evF (xs x) g) (evF (xs x) h) w') (by assumption) ?_
      · (intro w' hSw; go_simp; try with_reducible rfl)
      try simp only [Act.put, List.setIfInBounds_toArray, List.set_cons_zero, List.set_cons_succ]
      refine x_take (i := 15) (oi := { dst := some 4, op := Op.assign (Operand.tmp 42), type := 4, pos := "ref.go:123", after := #[{ on := 14, ground := Ground.data }, { on := 14, ground := Ground.chain }, { on := 0, ground := Ground.phase }, { on := 1, ground := Ground.phase }, { on := 2, ground := Ground.phase }, { on := 3, ground := Ground.phase }, { on := 4, ground := Ground.phase }, { on := 5, ground := Ground.phase }, { on := 6, ground := Ground.phase }, { on := 7, ground := Ground.phase }, { on := 8, ground := Ground.phase }, { on := 9, ground := Ground.phase }, { on := 10, ground := Ground.phase }, { on := 11, ground := Ground.phase }, { on := 12, ground := Ground.phase }, { on := 13, ground := Ground.phase }, { on := 14, ground := Ground.phase }], guard := none }) (v := ?_) rfl (by kernel_rfl) (by kernel_rfl) (by kernel_rfl) (by kernel_rfl) (by kernel_rfl) (fun _ _ _ h => h) (Or.inl ⟨rfl, ?_⟩) (by assumption) ?_
      rotate_left
      · (intro w' hSw; replace q0 := kept_cell hSw q0; replace q1 := kept_cell hSw q1; replace q2 := kept_cell hSw q2; replace d0 := kept_cell hSw d0; replace d1 := kept_cell hSw d1; replace d2 := kept_cell hSw d2; replace e0 := kept_cell hSw e0; replace e1 := kept_cell hSw e1; replace e2 := kept_cell hSw e2; go_simp; try with_reducible rfl)
      try simp only [Act.put, List.setIfInBounds_toArray, List.set_cons_zero, List.set_cons_succ]
      refine x_done (by kernel_rfl) ?_ _
      go_wp2_with fail
      go_ret
      exact ⟨ret_bool (by rw [← HE.out]), kept_trans K0 KK4⟩

end Go.Proofs.YtikfeemmjfoffaaDoor
