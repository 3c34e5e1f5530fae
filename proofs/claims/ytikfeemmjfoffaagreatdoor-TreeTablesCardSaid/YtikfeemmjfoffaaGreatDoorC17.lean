/- Polynomials: the reference's Total. -/
import Derived.Test.YtikfeemmjfoffaaGreatDoorC16
set_option linter.unusedVariables false
set_option linter.unusedSimpArgs false
namespace Go.Proofs.YtikfeemmjfoffaaGreatDoor
open Go.RowKit Go.Maps Go.Shelf

section
variable (add : Int → Int → Int)
theorem totalT_fuel : ∀ (k m : Nat) (l : List (List Tm)), l.length ≤ k → l.length ≤ m → totalT add k l = totalT add m l
  | 0, 0, _, _, _ => rfl
  | 0, m + 1, l, h, _ => by
    have h1 : l.length = 0 := by omega
    simp [totalT, h1]
  | k + 1, 0, l, _, h => by
    have h1 : l.length = 0 := by omega
    simp [totalT, h1]
  | k + 1, m + 1, l, h, h' => by
    unfold totalT
    by_cases h0 : l.length = 0
    · rw [if_pos h0, if_pos h0]
    · rw [if_neg h0, if_neg h0]
      by_cases h1 : l.length = 1
      · rw [if_pos h1, if_pos h1]
      · rw [if_neg h1, if_neg h1, totalT_fuel k m (l.take (l.length / 2)) (by simp; omega) (by simp; omega), totalT_fuel k m (l.drop (l.length / 2)) (by simp; omega) (by simp; omega)]
/-- The sum of a list of polynomials. -/
def tot (l : List (List Tm)) : List Tm := totalT add l.length l
theorem tot_none : tot add [] = [] := rfl
theorem tot_one (p : List Tm) : tot add [p] = p := by simp [tot, totalT]
theorem tot_two {l : List (List Tm)} (h : 2 ≤ l.length) : tot add l = mg add (tot add (l.take (l.length / 2))) (tot add (l.drop (l.length / 2))) := by
  unfold tot mg
  obtain ⟨k, hk⟩ : ∃ k, l.length = k + 1 := ⟨l.length - 1, by omega⟩
  conv => lhs; rw [hk]; unfold totalT
  rw [if_neg (by omega), if_neg (by omega), totalT_fuel add k (l.take (l.length / 2)).length (l.take (l.length / 2)) (by simp; omega) (by simp), totalT_fuel add k (l.drop (l.length / 2)).length (l.drop (l.length / 2)) (by simp; omega) (by simp)]
theorem mergeT_len : ∀ (k : Nat) (p r : List Tm), (mergeT add k p r).length ≤ p.length + r.length
  | 0, p, r => by simp [mergeT]
  | k + 1, [], r => by simp [mergeT]
  | k + 1, t :: p, [] => by simp [mergeT]
  | k + 1, t :: p, u :: r => by
    have h1 := mergeT_len k p (u :: r)
    have h2 := mergeT_len k (t :: p) r
    have h3 := mergeT_len k p r
    simp only [List.length_cons] at h1 h2
    unfold mergeT
    split
    · simp; omega
    · split
      · simp; omega
      · split <;> simp <;> omega
def sumLen (l : List (List Tm)) : Nat := (l.map List.length).sum
theorem sumLen_split (l : List (List Tm)) (k : Nat) : sumLen (l.take k) + sumLen (l.drop k) = sumLen l := by
  unfold sumLen
  rw [← List.sum_append, ← List.map_append, List.take_append_drop]
theorem totalT_len : ∀ (k : Nat) (l : List (List Tm)), (totalT add k l).length ≤ sumLen l
  | 0, l => by simp [totalT]
  | k + 1, l => by
    unfold totalT
    by_cases h0 : l.length = 0
    · rw [if_pos h0]; simp
    · rw [if_neg h0]
      by_cases h1 : l.length = 1
      · rw [if_pos h1]
        match l, h1 with
        | [p], _ => simp [sumLen]
      · rw [if_neg h1]
        have h2 := totalT_len k (l.take (l.length / 2))
        have h3 := totalT_len k (l.drop (l.length / 2))
        have h4 := sumLen_split l (l.length / 2)
        have h5 := mergeT_len add ((totalT add k (l.take (l.length / 2))).length + (totalT add k (l.drop (l.length / 2))).length) (totalT add k (l.take (l.length / 2))) (totalT add k (l.drop (l.length / 2)))
        omega
end
theorem RPP.take {w : World} {A : Option Addr} {ps : List (List Tm)} (h : RPP w A ps) (k : Nat) : RPP w A (ps.take k) := fun j hj => by
  have hj2 : j < k ∧ j < ps.length := by have := hj; simp at this; omega
  have e : (ps.take k).getD j [] = ps.getD j [] := by simp [List.getD_eq_getElem?_getD, hj2.1]
  rw [e]
  exact h j hj2.2
theorem RPP.drop {w : World} {b off : Nat} {ps : List (List Tm)} (h : RPP w (some ⟨b, off, none⟩) ps) (k : Nat) : RPP w (some ⟨b, off + k, none⟩) (ps.drop k) := fun j hj => by
  have hj2 : k + j < ps.length := by simp at hj; omega
  have e : (ps.drop k).getD j [] = ps.getD (k + j) [] := by simp [List.getD_eq_getElem?_getD]
  rw [e]
  obtain ⟨b', off', E, c, e1, h1, h2, h3⟩ := h (k + j) hj2
  injection e1 with e1
  injection e1 with e1 e2 _
  subst e1; subst e2
  exact ⟨b, off + k, E, c, rfl, by rw [Nat.add_assoc]; exact h1, h2, h3⟩
/-- What Total leaves. -/
def TotPost (P M : Int) (ps : List (List Tm)) (w : World) (e : Ending) (w' : World) : Prop := ∃ (A' : Option Addr) (c' : Nat) (out : List Tm), e = .returned (.slice A' out.length c') ∧ out = tot (addF P M) ps ∧ RP w' A' out ∧ Kept w w'
set_option maxRecDepth 100000 in
set_option maxHeartbeats 1000000 in
theorem rtotal49_any (P M : Int) (n : Nat) (ok : okF P M = true) (hn : n ≤ 1000) : ∀ (m : Nat) (ps : List (List Tm)) (A : Option Addr) (c : Nat) (w : World), ps.length ≤ m → RPP w A ps → (∀ p ∈ ps, Canon (ordF P M) n p) → sumLen ps ≤ 20000 → ps.length ≤ 20000 → ps.length ≤ c → c ≤ 9223372036854775807 →
    Calls Tryz.prog 42 #[kV P M, .slice A ps.length c] w (TotPost P M ps w) := by
  intro m
  induction m with
  | zero =>
    intro ps A c w h _ _ _ _ _ _
    obtain rfl : ps = [] := List.eq_nil_of_length_eq_zero (by omega)
    unfold kV
    clear h ok
    go_enter Tryz.func42, Tryz.ntmps42
    go_wp2_with fail
    go_ret
    exact ⟨none, 0, [], rfl, rfl, RP.nil _ _, kept_alloc (kept_refl w) _⟩
  | succ m ih =>
    intro ps A c w h hA hC hs hl hcp hcm
    by_cases h2 : 2 ≤ ps.length
    · obtain ⟨l, hll⟩ : ∃ l, l = ps.length := ⟨_, rfl⟩
      obtain ⟨hf, hhf⟩ : ∃ hf, hf = ps.length / 2 := ⟨_, rfl⟩
      obtain ⟨b0, f0, E0, c0, rfl, _⟩ := hA 0 (by omega)
      have HT := Lib.hid (tot_two (addF P M) h2)
      have HCAN : Hid (Canon (ordF P M) n (tot (addF P M) ps)) := Lib.hid (totalT_spec (n := n) (addF_ok ok) ps.length (l := ps) (Nat.le_refl _) hC).1
      rw [← hhf] at HT
      have sp := sumLen_split ps hf
      have C1 := Lib.hid fun w' (k : Kept w w') => ih (ps.take hf) (some ⟨b0, f0, none⟩) c w' (by simp; omega) ((hA.take hf).kept k) (fun p hp => hC p (List.mem_of_mem_take hp)) (by omega) (by simp; omega) (by simp; omega) hcm
      have C2 := Lib.hid fun w' (k : Kept w w') => ih (ps.drop hf) (some ⟨b0, f0 + hf, none⟩) (c - hf) w' (by simp; omega) ((hA.drop hf).kept k) (fun p hp => hC p (List.mem_of_mem_drop hp)) (by omega) (by simp; omega) (by simp; omega) (by omega)
      have e1 : (ps.take hf).length = hf := by simp; omega
      have e2 : (ps.drop hf).length = l - hf := by simp; omega
      rw [e1] at C1
      rw [e2] at C2
      have t1 := totalT_spec (n := n) (addF_ok ok) (ps.take hf).length (l := ps.take hf) (Nat.le_refl _) (fun p hp => hC p (List.mem_of_mem_take hp))
      have t2 := totalT_spec (n := n) (addF_ok ok) (ps.drop hf).length (l := ps.drop hf) (Nat.le_refl _) (fun p hp => hC p (List.mem_of_mem_drop hp))
      have u1 := totalT_len (addF P M) (ps.take hf).length (ps.take hf)
      have u2 := totalT_len (addF P M) (ps.drop hf).length (ps.drop hf)
      have C3 := Lib.hid fun (w' : World) (A B : Option Addr) (ca cb : Nat) (x y : List Tm) (hx : x = tot (addF P M) (ps.take hf)) (hy : y = tot (addF P M) (ps.drop hf)) (hX : RP w' A x) (hY : RP w' B y) => radd81_any P M x y A B ca cb w' ok hX hY (by rw [hx]; unfold tot; omega) (by rw [hy]; unfold tot; omega)
        (fun t ht => by rw [hx] at ht; have a1 := t1.1.len t ht; have a2 := t1.1.c t ht; exact ⟨⟨by omega, a2.2⟩, by omega⟩) (fun t ht => by rw [hy] at ht; have a1 := t2.1.len t ht; have a2 := t2.1.c t ht; exact ⟨⟨by omega, a2.2⟩, by omega⟩)
        (fun t ht u hu => by rw [hx] at ht; rw [hy] at hu; rw [t1.1.len t ht, t2.1.len u hu])
      unfold kV at *
      have K0 := kept_alloc (kept_refl w) (.cells #[.int .i64 P, .int .i64 M, .int .i64 (ordF P M), .int .i64 (kitM M)] 45)
      have o2 := Own.new w 45 [.int .i64 P, .int .i64 M, .int .i64 (ordF P M), .int .i64 (kitM M)]
      rw [← hll] at hl h2 hcp ⊢
      have hh1 : 1 ≤ hf ∧ hf < l := by omega
      have ehf : ((l : Int).tdiv 2) = (hf : Int) := by
        rw [hhf, ← hll]
        exact Int.ofNat_tdiv l 2
      have ewh : IntKind.i64.wrap ((hf : Nat) : Int) = hf := IntWalk.i64_in _ (by omega)
      have d0 : ((l : Int) == 0) = false := by have : (l : Int) ≠ 0 := by { omega }
                                               simpa using this
      have d0' : (l == 0) = false := by have : l ≠ 0 := by { omega }
                                        simpa using this
      have d1 : ((l : Int) == 1) = false := by have : (l : Int) ≠ 1 := by { omega }
                                               simpa using this
      have d1' : (l == 1) = false := by have : l ≠ 1 := by { omega }
                                        simpa using this
      obtain ⟨q, hq⟩ : ∃ q, q = ordF P M := ⟨_, rfl⟩
      obtain ⟨km, hkm⟩ : ∃ km, km = kitM M := ⟨_, rfl⟩
      rw [← hq, ← hkm] at C1 C2 C3 K0 o2 ⊢
      clear hq hkm hll hhf sp e1 e2 t1 t2 u1 u2 hA hC hs ih h ok
      obtain ⟨W0, hW0⟩ : ∃ W0, W0 = w.alloc (.cells #[.int .i64 P, .int .i64 M, .int .i64 q, .int .i64 km] 45) := ⟨_, rfl⟩
      have HW0 := Lib.hid hW0
      rw [← hW0] at K0 o2
      clear hW0
      have y0 := o2.cell (j := 0) rfl; have y1 := o2.cell (j := 1) rfl; have y2 := o2.cell (j := 2) rfl; have y3 := o2.cell (j := 3) rfl
      go_enter Tryz.func42, Tryz.ntmps42
      go_upto_region 6 with fail
      rw [← HW0.out]
      have f1 : hf ≤ c := by omega
      have f2 : hf ≤ l := by omega
      have f3 : ¬ c = hf := by omega
      have dd1 : decide (hf ≤ c) = true := decide_eq_true f1
      refine region_x (fun w' => Kept W0 w') [] (by kernel_rfl) (kept_drew (kept_refl _)) (fun hHeld => ?_)
      refine x_take (i := 0) (oi := { dst := some 18, op := Op.load 45 (Operand.tmp 2), type := 45, pos := "ref.go:109", after := #[], guard := none }) (v := ?_) rfl (by kernel_rfl) (by kernel_rfl) (by kernel_rfl) (by kernel_rfl) (by kernel_rfl) (fun _ _ _ h => h) (Or.inl ⟨rfl, ?_⟩) (by assumption) ?_
      rotate_left
      · (intro w' hSw; replace y0 := kept_cell hSw y0; replace y1 := kept_cell hSw y1; replace y2 := kept_cell hSw y2; replace y3 := kept_cell hSw y3; go_simp; try with_reducible rfl)
      try simp only [Act.put, List.setIfInBounds_toArray, List.set_cons_zero, List.set_cons_succ]
      refine x_take (i := 1) (oi := { dst := some 19, op := Op.load 45 (Operand.tmp 2), type := 45, pos := "ref.go:109", after := #[], guard := none }) (v := ?_) rfl (by kernel_rfl) (by kernel_rfl) (by kernel_rfl) (by kernel_rfl) (by kernel_rfl) (fun _ _ _ h => h) (Or.inl ⟨rfl, ?_⟩) (by assumption) ?_
      rotate_left
      · (intro w' hSw; replace y0 := kept_cell hSw y0; replace y1 := kept_cell hSw y1; replace y2 := kept_cell hSw y2; replace y3 := kept_cell hSw y3; go_simp; try with_reducible rfl)
      try simp only [Act.put, List.setIfInBounds_toArray, List.set_cons_zero, List.set_cons_succ]
      refine x_take (i := 2) (oi := { dst := some 20, op := Op.move (Operand.tmp 1), type := 82, pos := "ref.go:109", after := #[], guard := none }) (v := ?_) rfl (by kernel_rfl) (by kernel_rfl) (by kernel_rfl) (by kernel_rfl) (by kernel_rfl) (fun _ _ _ h => h) (Or.inl ⟨rfl, ?_⟩) (by assumption) ?_
      rotate_left
      · (intro w' hSw; replace y0 := kept_cell hSw y0; replace y1 := kept_cell hSw y1; replace y2 := kept_cell hSw y2; replace y3 := kept_cell hSw y3; go_simp; try with_reducible rfl)
      try simp only [Act.put, List.setIfInBounds_toArray, List.set_cons_zero, List.set_cons_succ]
      refine x_take (i := 3) (oi := { dst := some 21, op := Op.move (Operand.tmp 5), type := 3, pos := "ref.go:109", after := #[], guard := none }) (v := ?_) rfl (by kernel_rfl) (by kernel_rfl) (by kernel_rfl) (by kernel_rfl) (by kernel_rfl) (fun _ _ _ h => h) (Or.inl ⟨rfl, ?_⟩) (by assumption) ?_
      rotate_left
      · (intro w' hSw; replace y0 := kept_cell hSw y0; replace y1 := kept_cell hSw y1; replace y2 := kept_cell hSw y2; replace y3 := kept_cell hSw y3; go_simp; try with_reducible rfl)
      try simp only [Act.put, List.setIfInBounds_toArray, List.set_cons_zero, List.set_cons_succ]
      refine x_take (i := 4) (oi := { dst := some 22, op := Op.slice 82 (Operand.tmp 20) none (some (Operand.tmp 21)) none, type := 82, pos := "ref.go:109", after := #[{ on := 2, ground := Ground.data }, { on := 3, ground := Ground.data }], guard := none }) (v := ?_) rfl (by kernel_rfl) (by kernel_rfl) (by kernel_rfl) (by kernel_rfl) (by kernel_rfl) (fun _ _ _ h => h) (Or.inl ⟨rfl, ?_⟩) (by assumption) ?_
      rotate_left
      · (intro w' hSw; replace y0 := kept_cell hSw y0; replace y1 := kept_cell hSw y1; replace y2 := kept_cell hSw y2; replace y3 := kept_cell hSw y3; go_simp; try with_reducible rfl)
      try simp only [Act.put, List.setIfInBounds_toArray, List.set_cons_zero, List.set_cons_succ]
      refine x_take (i := 6) (oi := { dst := some 24, op := Op.load 45 (Operand.tmp 2), type := 45, pos := "ref.go:109", after := #[], guard := none }) (v := ?_) rfl (by kernel_rfl) (by kernel_rfl) (by kernel_rfl) (by kernel_rfl) (by kernel_rfl) (fun _ _ _ h => h) (Or.inl ⟨rfl, ?_⟩) (by assumption) ?_
      rotate_left
      · (intro w' hSw; replace y0 := kept_cell hSw y0; replace y1 := kept_cell hSw y1; replace y2 := kept_cell hSw y2; replace y3 := kept_cell hSw y3; go_simp; try with_reducible rfl)
      try simp only [Act.put, List.setIfInBounds_toArray, List.set_cons_zero, List.set_cons_succ]
      refine x_take (i := 7) (oi := { dst := some 25, op := Op.move (Operand.tmp 1), type := 82, pos := "ref.go:109", after := #[], guard := none }) (v := ?_) rfl (by kernel_rfl) (by kernel_rfl) (by kernel_rfl) (by kernel_rfl) (by kernel_rfl) (fun _ _ _ h => h) (Or.inl ⟨rfl, ?_⟩) (by assumption) ?_
      rotate_left
      · (intro w' hSw; replace y0 := kept_cell hSw y0; replace y1 := kept_cell hSw y1; replace y2 := kept_cell hSw y2; replace y3 := kept_cell hSw y3; go_simp; try with_reducible rfl)
      try simp only [Act.put, List.setIfInBounds_toArray, List.set_cons_zero, List.set_cons_succ]
      refine x_take (i := 8) (oi := { dst := some 26, op := Op.move (Operand.tmp 5), type := 3, pos := "ref.go:109", after := #[], guard := none }) (v := ?_) rfl (by kernel_rfl) (by kernel_rfl) (by kernel_rfl) (by kernel_rfl) (by kernel_rfl) (fun _ _ _ h => h) (Or.inl ⟨rfl, ?_⟩) (by assumption) ?_
      rotate_left
      · (intro w' hSw; replace y0 := kept_cell hSw y0; replace y1 := kept_cell hSw y1; replace y2 := kept_cell hSw y2; replace y3 := kept_cell hSw y3; go_simp; try with_reducible rfl)
      try simp only [Act.put, List.setIfInBounds_toArray, List.set_cons_zero, List.set_cons_succ]
      refine x_take (i := 9) (oi := { dst := some 27, op := Op.slice 82 (Operand.tmp 25) (some (Operand.tmp 26)) none none, type := 82, pos := "ref.go:109", after := #[{ on := 7, ground := Ground.data }, { on := 8, ground := Ground.data }], guard := none }) (v := ?_) rfl (by kernel_rfl) (by kernel_rfl) (by kernel_rfl) (by kernel_rfl) (by kernel_rfl) (fun _ _ _ h => h) (Or.inl ⟨rfl, ?_⟩) (by assumption) ?_
      rotate_left
      · (intro w' hSw; replace y0 := kept_cell hSw y0; replace y1 := kept_cell hSw y1; replace y2 := kept_cell hSw y2; replace y3 := kept_cell hSw y3; go_simp; try with_reducible rfl)
      try simp only [Act.put, List.setIfInBounds_toArray, List.set_cons_zero, List.set_cons_succ]
      refine x_one (i := 5) (o := { dst := some 23, op := Op.call { callee := Callee.value (Operand.func 42), args := #[Operand.tmp 19, Operand.tmp 22], argTypes := #[45, 82] }, type := 35, pos := "ref.go:109", after := #[{ on := 1, ground := Ground.data }, { on := 4, ground := Ground.data }], guard := none }) (by kernel_rfl) rfl (fun K hK => ?_)
      (go_simp; go_at_call 42; (with_reducible refine (C1.out _ (kept_trans K0 hHeld)).mono ?_); rintro e w4 ⟨A4, c4, x, rfl, hx, hX, k4⟩; have HX := Lib.hid hx; have KK4 := kept_trans hHeld k4; clear hx; try dsimp only)
      refine hK.out _ _ ?_ (fun hHeld => ?_)
      · (try dsimp only); repeat (first | assumption | exact kept_refl _ | refine kept_drew ?_ | refine kept_alloc ?_ _ | refine kept_set ?_ (by omega) _)
      clear hK K
      try simp only [Act.put, List.setIfInBounds_toArray, List.set_cons_zero, List.set_cons_succ]
      refine x_one (i := 10) (o := { dst := some 28, op := Op.call { callee := Callee.value (Operand.func 42), args := #[Operand.tmp 24, Operand.tmp 27], argTypes := #[45, 82] }, type := 35, pos := "ref.go:109", after := #[{ on := 6, ground := Ground.data }, { on := 9, ground := Ground.data }, { on := 5, ground := Ground.chain }], guard := none }) (by kernel_rfl) rfl (fun K hK => ?_)
      (go_simp; go_at_call 42; (with_reducible refine (C2.out _ (kept_trans K0 hHeld)).mono ?_); rintro e w5 ⟨A5, c5, y, rfl, hy, hY, k5⟩; have HY := Lib.hid hy; have KK5 := kept_trans hHeld k5; clear hy; try dsimp only)
      refine hK.out _ _ ?_ (fun hHeld => ?_)
      · (try dsimp only); repeat (first | assumption | exact kept_refl _ | refine kept_drew ?_ | refine kept_alloc ?_ _ | refine kept_set ?_ (by omega) _)
      clear hK K
      try simp only [Act.put, List.setIfInBounds_toArray, List.set_cons_zero, List.set_cons_succ]
      refine x_one (i := 11) (o := { dst := some 29, op := Op.call { callee := Callee.value (Operand.func 69), args := #[Operand.tmp 18, Operand.tmp 23, Operand.tmp 28], argTypes := #[45, 35, 35] }, type := 35, pos := "ref.go:109", after := #[{ on := 0, ground := Ground.data }, { on := 5, ground := Ground.data }, { on := 10, ground := Ground.data }, { on := 10, ground := Ground.chain }], guard := none }) (by kernel_rfl) rfl (fun K hK => ?_)
      (go_simp; go_at_call 69; (with_reducible refine (C3.out _ A4 A5 c4 c5 x y HX.out HY.out (hX.kept k5) hY).mono ?_); rintro e w6 ⟨v6, S, rfl, hS, hrow, hex, k6⟩; have KK6 := kept_trans hHeld k6; have HS6 := Lib.hid hS; have HEX := Lib.hid (fun x hx => (hex x hx).kept k6); clear hS; try dsimp only)
      refine hK.out _ _ ?_ (fun hHeld => ?_)
      · (try dsimp only); repeat (first | assumption | exact kept_refl _ | refine kept_drew ?_ | refine kept_alloc ?_ _ | refine kept_set ?_ (by omega) _)
      clear hK K
      try simp only [Act.put, List.setIfInBounds_toArray, List.set_cons_zero, List.set_cons_succ]
      refine x_take (i := 12) (oi := { dst := some 4, op := Op.assign (Operand.tmp 29), type := 35, pos := "ref.go:109", after := #[{ on := 11, ground := Ground.data }, { on := 11, ground := Ground.chain }, { on := 0, ground := Ground.phase }, { on := 1, ground := Ground.phase }, { on := 2, ground := Ground.phase }, { on := 3, ground := Ground.phase }, { on := 4, ground := Ground.phase }, { on := 5, ground := Ground.phase }, { on := 6, ground := Ground.phase }, { on := 7, ground := Ground.phase }, { on := 8, ground := Ground.phase }, { on := 9, ground := Ground.phase }, { on := 10, ground := Ground.phase }, { on := 11, ground := Ground.phase }], guard := none }) (v := ?_) rfl (by kernel_rfl) (by kernel_rfl) (by kernel_rfl) (by kernel_rfl) (by kernel_rfl) (fun _ _ _ h => h) (Or.inl ⟨rfl, ?_⟩) (by assumption) ?_
      rotate_left
      · (intro w' hSw; replace y0 := kept_cell hSw y0; replace y1 := kept_cell hSw y1; replace y2 := kept_cell hSw y2; replace y3 := kept_cell hSw y3; go_simp; try with_reducible rfl)
      try simp only [Act.put, List.setIfInBounds_toArray, List.set_cons_zero, List.set_cons_succ]
      refine x_done (by kernel_rfl) ?_ _
      obtain ⟨A6, c6, rfl⟩ := row_val hrow
      have HROW := Lib.hid hrow
      clear hrow hex hX hY y0 y1 y2 y3 o2
      go_wp2_with fail
      go_ret
      have eo : S.map Te.t = tot (addF P M) ps := by rw [HT.out, HS6.out, HX.out, HY.out]
      exact ⟨A6, c6, S.map Te.t, show Ending.returned (.slice A6 S.length c6) = .returned (.slice A6 (S.map Te.t).length c6) from (by rw [List.length_map]), eo, rp_of_row HROW.out (fun x hx => HEX.out x hx) (fun x hx => by
        have h5 : x.t ∈ tot (addF P M) ps := by rw [← eo]; exact List.mem_map.2 ⟨x, hx, rfl⟩
        rw [HCAN.out.len _ h5]; exact hn), kept_trans K0 KK6⟩
    · by_cases h0 : ps.length = 0
      · obtain rfl : ps = [] := List.eq_nil_of_length_eq_zero h0
        unfold kV
        clear h ok ih h0 h2 hC hs hl hcp hA
        go_enter Tryz.func42, Tryz.ntmps42
        go_wp2_with fail
        go_ret
        exact ⟨none, 0, [], rfl, rfl, RP.nil _ _, kept_alloc (kept_refl w) _⟩
      · obtain ⟨p, rfl⟩ : ∃ p, ps = [p] := List.length_eq_one_iff.1 (by omega)
        obtain ⟨b0, f0, E0, c0, rfl, q0, hE, _⟩ := hA 0 (by simp)
        simp only [List.getD_cons_zero, Nat.add_zero] at q0 hE
        have K0 := kept_alloc (kept_refl w) (.cells #[.int .i64 P, .int .i64 M, .int .i64 (ordF P M), .int .i64 (kitM M)] 45)
        have HE := Lib.hid (hE.kept K0)
        have z0 := kept_cell K0 q0
        unfold kV
        clear h ok ih h0 h2 hC hs hl hcp hA hE q0
        go_enter Tryz.func42, Tryz.ntmps42
        go_wp2_with fail
        go_ret
        exact ⟨E0, c0, p, rfl, (tot_one _ p).symm, HE.out, K0⟩
end Go.Proofs.YtikfeemmjfoffaaGreatDoor
