/- Polynomials: the reference's Add. -/
import Derived.Test.YtikfeemmjfoffaaGreatDoorC13
set_option linter.unusedVariables false
set_option linter.unusedSimpArgs false
namespace Go.Proofs.YtikfeemmjfoffaaGreatDoor
open Go.RowKit Go.Maps Go.Shelf

section
variable (add : Int → Int → Int)
theorem mergeT_fuel : ∀ (k m : Nat) (p r : List Tm), p.length + r.length ≤ k → p.length + r.length ≤ m → mergeT add k p r = mergeT add m p r
  | 0, 0, _, _, _, _ => rfl
  | 0, m + 1, p, r, h, _ => by
    have h1 : p.length = 0 := by omega
    have h2 : r.length = 0 := by omega
    obtain rfl := List.eq_nil_of_length_eq_zero h1
    obtain rfl := List.eq_nil_of_length_eq_zero h2
    rfl
  | k + 1, 0, p, r, _, h => by
    have h1 : p.length = 0 := by omega
    have h2 : r.length = 0 := by omega
    obtain rfl := List.eq_nil_of_length_eq_zero h1
    obtain rfl := List.eq_nil_of_length_eq_zero h2
    rfl
  | k + 1, m + 1, [], r, _, _ => by simp [mergeT]
  | k + 1, m + 1, t :: p, [], _, _ => by simp [mergeT]
  | k + 1, m + 1, t :: p, u :: r, h, h' => by
    simp only [List.length_cons] at h h'
    unfold mergeT
    rw [mergeT_fuel k m p (u :: r) (by simp; omega) (by simp; omega), mergeT_fuel k m (t :: p) r (by simp; omega) (by simp; omega), mergeT_fuel k m p r (by omega) (by omega)]
/-- The merge of two rising lists. -/
def mg (p r : List Tm) : List Tm := mergeT add (p.length + r.length) p r
theorem mg_l (r : List Tm) : mg add [] r = r := by
  cases r with
  | nil => rfl
  | cons u r => simp [mg, mergeT]
theorem mg_r (p : List Tm) : mg add p [] = p := by
  cases p with
  | nil => rfl
  | cons u r => simp [mg, mergeT]
theorem mg_cons (t u : Tm) (p r : List Tm) : mg add (t :: p) (u :: r) = if cmpL t.e u.e < 0 then t :: mg add p (u :: r) else if 0 < cmpL t.e u.e then u :: mg add (t :: p) r else if add t.c u.c ≠ 0 then ⟨add t.c u.c, t.e⟩ :: mg add p r else mg add p r := by
  unfold mg
  rw [show (t :: p).length + (u :: r).length = (p.length + r.length + 1) + 1 by simp; omega]
  conv => lhs; unfold mergeT
  rw [mergeT_fuel add (p.length + r.length + 1) (p.length + (u :: r).length) p (u :: r) (by simp; omega) (by simp), mergeT_fuel add (p.length + r.length + 1) ((t :: p).length + r.length) (t :: p) r (by simp; omega) (by simp), mergeT_fuel add (p.length + r.length + 1) (p.length + r.length) p r (by omega) (by omega)]
end
theorem drop_tm {p : List Tm} {k : Nat} (h : k < p.length) : p.drop k = tmv p k :: p.drop (k + 1) := by
  rw [List.drop_eq_getElem_cons h]
  simp [tmv, h]
theorem teCells_snoc (S : List Te) (x : Te) : teCells (S ++ [x]) = teCells S ++ te2 x := by simp [teCells]
theorem one_te (c : Int) (E : Option Addr) (n cap : Nat) : ∀ u ∈ [Value.int .i64 c, Value.slice E n cap], u.oneCell' = true := by
  intro u hu
  simp at hu
  rcases hu with rfl | rfl <;> rfl
theorem int_beq_eq {i n : Nat} (h : i = n) : ((i : Int) == (n : Int)) = true := by simp [h]
theorem int_beq_ne {i n : Nat} (h : i ≠ n) : ((i : Int) == (n : Int)) = false := by have : (i : Int) ≠ n := by { omega }; simpa using this
theorem nat_beq_eq {i n : Nat} (h : i = n) : (i == n) = true := by simp [h]
theorem nat_beq_ne {i n : Nat} (h : i ≠ n) : (i == n) = false := by simpa using h
theorem row_base {w : World} {B B' sz n : Nat} {e : TypeId} {v : Value} {cs : List Value} (h : w.ownsRow B e sz v n cs) (hB : B' ≤ B) : w.ownsRow B' e sz v n cs := by
  refine ⟨h.1, ?_⟩
  rcases h.2 with hn | ⟨g, cap, cur, hv, hbg, rest⟩
  · exact .inl hn
  · exact .inr ⟨g, cap, cur, hv, Nat.le_trans hB hbg, rest⟩
theorem tmv_mem {p : List Tm} {k : Nat} (h : k < p.length) : tmv p k ∈ p := by
  rw [show tmv p k = p[k] by simp [tmv, h]]
  exact List.getElem_mem h
set_option maxRecDepth 100000 in
set_option maxHeartbeats 1000000 in
theorem radd81_any (P M : Int) (p r : List Tm) (A B : Option Addr) (ca cb : Nat) (w : World) (ok : okF P M = true) (hP : RP w A p) (hR : RP w B r) (hp : p.length ≤ 20000) (hr : r.length ≤ 20000)
    (fp : ∀ t ∈ p, inF P M t.c ∧ t.e.length ≤ 1000) (fr : ∀ t ∈ r, inF P M t.c ∧ t.e.length ≤ 1000) (he : ∀ t ∈ p, ∀ u ∈ r, t.e.length = u.e.length) :
    Calls Tryz.prog 69 #[kV P M, .slice A p.length ca, .slice B r.length cb] w fun e w' => ∃ (v : Value) (S : List Te), e = .returned v ∧ S.map Te.t = mg (addF P M) p r ∧ w'.ownsRow w.heap.size 78 2 v S.length (teCells S) ∧ (∀ x ∈ S, Rd w x.E (ints x.t.e)) ∧ Kept w w' := by
  have C53 := Lib.hid fun w' a b => radd53_any P M a b w' ok
  unfold kV at *
  have K0 := kept_alloc (kept_refl w) (.cells #[.int .i64 P, .int .i64 M, .int .i64 (ordF P M), .int .i64 (kitM M)] 45)
  have o3 := Own.new w 45 [.int .i64 P, .int .i64 M, .int .i64 (ordF P M), .int .i64 (kitM M)]
  have HP := Lib.hid hP
  have HR := Lib.hid hR
  have FP := Lib.hid fp
  have FR := Lib.hid fr
  have HE := Lib.hid he
  have OK := Lib.hid ok
  clear hP hR fp fr he ok
  obtain ⟨q, hq⟩ : ∃ q, q = ordF P M := ⟨_, rfl⟩
  obtain ⟨km, hkm⟩ : ∃ km, km = kitM M := ⟨_, rfl⟩
  rw [← hq, ← hkm] at C53 K0 o3 ⊢
  clear hq hkm
  go_enter Tryz.func69, Tryz.ntmps69
  go_wp2_with fail
  obtain ⟨w0, hw0⟩ : ∃ w0, w0 = w.alloc (.cells #[.int .i64 P, .int .i64 M, .int .i64 q, .int .i64 km] 45) := ⟨_, rfl⟩
  rw [← hw0] at K0 o3 ⊢
  clear hw0
  go_loopg [7, 8, 9, 10, 11] (p.length + r.length) (fun G s7 s8 s9 s10 s11 wr => ∃ (i j : Nat) (A7 : Option Addr) (c7 : Nat) (S : List Te) (v10 v11 : Value), i ≤ p.length ∧ j ≤ r.length ∧ G = (p.length - i) + (r.length - j) ∧ s7 = .slice A7 S.length c7 ∧ s8 = .int .i64 i ∧ s9 = .int .i64 j ∧ s10 = v10 ∧ s11 = v11 ∧ wr.ownsRow (w.heap.size + 1) 78 2 (.slice A7 S.length c7) S.length (teCells S) ∧ S.length ≤ i + j ∧ Hid (mg (addF P M) p r = S.map Te.t ++ mg (addF P M) (p.drop i) (r.drop j)) ∧ Hid (∀ x ∈ S, Rd w x.E (ints x.t.e)) ∧ Kept w wr ∧ Own wr w.heap.size 45 [.int .i64 P, .int .i64 M, .int .i64 q, .int .i64 km])
  case atStart => exact ⟨0, 0, none, 0, [], _, _, by omega, by omega, by omega, rfl, rfl, rfl, rfl, rfl, World.ownsRow_nil _ _ _ _, by simp, Lib.hid (by simp), Lib.hid (by simp), K0, o3⟩
  case round =>
    clear K0 o3
    obtain ⟨i, j, A7, c7, S, v10, v11, hi, hj, rfl, rfl, rfl, rfl, rfl, rfl, hrow, hS, HM, HX, K0, o3⟩ := hrel
    have ol := o3.lt
    by_cases hit : i < p.length
    · have d1 : decide ((i : Int) < (p.length : Int)) = true := decide_eq_true (by omega)
      have d1' : decide (i < p.length) = true := decide_eq_true (by omega)
      have d2 : ((i : Int) == (p.length : Int)) = false := int_beq_ne (by omega)
      have d2' : (i == p.length) = false := nat_beq_ne (by omega)
      obtain ⟨ba, oa, E, ce, rfl, a0, a1, hE_t, hl_t⟩ := HP.out i hit
      replace a0 := kept_cell K0 a0
      replace a1 := kept_cell K0 a1
      obtain ⟨t, hq_t⟩ : ∃ t, t = tmv p i := ⟨_, rfl⟩
      rw [← hq_t] at a0 a1 hE_t hl_t
      have HQ_t := Lib.hid hq_t
      have HEE := Lib.hid hE_t
      by_cases hjt : j < r.length
      · have d3 : decide ((j : Int) < (r.length : Int)) = true := decide_eq_true (by omega)
        have d3' : decide (j < r.length) = true := decide_eq_true (by omega)
        obtain ⟨bb, ob, E2, ce2, rfl, g0, g1, hE_u, hl_u⟩ := HR.out j hjt
        replace g0 := kept_cell K0 g0
        replace g1 := kept_cell K0 g1
        obtain ⟨u, hq_u⟩ : ∃ u, u = tmv r j := ⟨_, rfl⟩
        rw [← hq_u] at g0 g1 hE_u hl_u
        have HQ_u := Lib.hid hq_u
        have HEE2 := Lib.hid hE_u
        have C48 := Lib.hid fun (w' : World) (kk : Kept wr w') => rcompare48_any t.e u.e E E2 ce ce2 w' (hE_t.kept (kept_trans K0 kk)) (hE_u.kept (kept_trans K0 kk)) (by rw [hq_t, hq_u]; exact HE.out _ (tmv_mem hit) _ (tmv_mem hjt)) hl_t
        have C53' := Lib.hid fun w' => C53.out w' t.c u.c (by rw [hq_t]; exact (FP.out _ (tmv_mem hit)).1) (by rw [hq_u]; exact (FR.out _ (tmv_mem hjt)).1)
        have hstep := mg_cons (addF P M) t u (p.drop (i + 1)) (r.drop (j + 1))
        rw [show t :: p.drop (i + 1) = p.drop i by rw [drop_tm hit, ← hq_t], show u :: r.drop (j + 1) = r.drop j by rw [drop_tm hjt, ← hq_u]] at hstep
        have HI1 := Lib.hid (show t :: p.drop (i + 1) = p.drop i by rw [drop_tm hit, ← hq_t])
        have HJ1 := Lib.hid (show u :: r.drop (j + 1) = r.drop j by rw [drop_tm hjt, ← hq_u])
        obtain ⟨cv, hcv⟩ : ∃ cv, cv = cmpL t.e u.e := ⟨_, rfl⟩
        obtain ⟨sv, hsv⟩ : ∃ sv, sv = addF P M t.c u.c := ⟨_, rfl⟩
        rw [← hcv] at C48 hstep
        rw [← hsv] at C53' hstep
        have HSTEP := Lib.hid hstep
        have y0 := o3.cell (j := 0) rfl; have y1 := o3.cell (j := 1) rfl; have y2 := o3.cell (j := 2) rfl; have y3 := o3.cell (j := 3) rfl
        have ewi : IntKind.i64.wrap ((i : Nat) : Int) = i := IntWalk.i64_in _ (by omega)
        have ewj : IntKind.i64.wrap ((j : Nat) : Int) = j := IntWalk.i64_in _ (by omega)
        clear hE_t hE_u hq_t hq_u hcv hsv hstep
        by_cases hc1 : cv < 0
        · have e1 : decide (cv < 0) = true := decide_eq_true hc1
          go_upto_region 8 with fail
          refine region_x (fun w' => Kept wr w') [] (by kernel_rfl) (kept_drew (kept_refl _)) (fun hHeld => ?_)
          refine x_take (i := 0) (oi := { dst := some 30, op := Op.move (Operand.tmp 1), type := 35, pos := "ref.go:79", after := #[], guard := none }) (v := ?_) rfl (by kernel_rfl) (by kernel_rfl) (by kernel_rfl) (by kernel_rfl) (by kernel_rfl) (fun _ _ _ h => h) (Or.inl ⟨rfl, ?_⟩) (by assumption) ?_
          rotate_left
          · (intro w' hSw; replace a1 := kept_cell hSw a1; replace g1 := kept_cell hSw g1; go_simp; try with_reducible rfl)
          try simp only [Act.put, List.setIfInBounds_toArray, List.set_cons_zero, List.set_cons_succ]
          refine x_take (i := 1) (oi := { dst := some 31, op := Op.move (Operand.tmp 8), type := 3, pos := "ref.go:79", after := #[], guard := none }) (v := ?_) rfl (by kernel_rfl) (by kernel_rfl) (by kernel_rfl) (by kernel_rfl) (by kernel_rfl) (fun _ _ _ h => h) (Or.inl ⟨rfl, ?_⟩) (by assumption) ?_
          rotate_left
          · (intro w' hSw; replace a1 := kept_cell hSw a1; replace g1 := kept_cell hSw g1; go_simp; try with_reducible rfl)
          try simp only [Act.put, List.setIfInBounds_toArray, List.set_cons_zero, List.set_cons_succ]
          refine x_take (i := 2) (oi := { dst := some 32, op := Op.indexAddr 35 (Operand.tmp 30) (Operand.tmp 31), type := 0, pos := "ref.go:79", after := #[{ on := 0, ground := Ground.data }, { on := 1, ground := Ground.data }], guard := none }) (v := ?_) rfl (by kernel_rfl) (by kernel_rfl) (by kernel_rfl) (by kernel_rfl) (by kernel_rfl) (fun _ _ _ h => h) (Or.inl ⟨rfl, ?_⟩) (by assumption) ?_
          rotate_left
          · (intro w' hSw; replace a1 := kept_cell hSw a1; replace g1 := kept_cell hSw g1; go_simp; try with_reducible rfl)
          try simp only [Act.put, List.setIfInBounds_toArray, List.set_cons_zero, List.set_cons_succ]
          refine x_take (i := 3) (oi := { dst := some 33, op := Op.fieldAddr 78 (Operand.tmp 32) 1, type := 0, pos := "ref.go:79", after := #[{ on := 2, ground := Ground.data }], guard := none }) (v := ?_) rfl (by kernel_rfl) (by kernel_rfl) (by kernel_rfl) (by kernel_rfl) (by kernel_rfl) (fun _ _ _ h => h) (Or.inl ⟨rfl, ?_⟩) (by assumption) ?_
          rotate_left
          · (intro w' hSw; replace a1 := kept_cell hSw a1; replace g1 := kept_cell hSw g1; go_simp; try with_reducible rfl)
          try simp only [Act.put, List.setIfInBounds_toArray, List.set_cons_zero, List.set_cons_succ]
          refine x_take (i := 4) (oi := { dst := some 34, op := Op.load 24 (Operand.tmp 33), type := 24, pos := "ref.go:79", after := #[{ on := 3, ground := Ground.data }], guard := none }) (v := ?_) rfl (by kernel_rfl) (by kernel_rfl) (by kernel_rfl) (by kernel_rfl) (by kernel_rfl) (fun _ _ _ h => h) (Or.inl ⟨rfl, ?_⟩) (by assumption) ?_
          rotate_left
          · (intro w' hSw; replace a1 := kept_cell hSw a1; replace g1 := kept_cell hSw g1; go_simp; try with_reducible rfl)
          try simp only [Act.put, List.setIfInBounds_toArray, List.set_cons_zero, List.set_cons_succ]
          refine x_take (i := 5) (oi := { dst := some 35, op := Op.move (Operand.tmp 2), type := 35, pos := "ref.go:79", after := #[], guard := none }) (v := ?_) rfl (by kernel_rfl) (by kernel_rfl) (by kernel_rfl) (by kernel_rfl) (by kernel_rfl) (fun _ _ _ h => h) (Or.inl ⟨rfl, ?_⟩) (by assumption) ?_
          rotate_left
          · (intro w' hSw; replace a1 := kept_cell hSw a1; replace g1 := kept_cell hSw g1; go_simp; try with_reducible rfl)
          try simp only [Act.put, List.setIfInBounds_toArray, List.set_cons_zero, List.set_cons_succ]
          refine x_take (i := 6) (oi := { dst := some 36, op := Op.move (Operand.tmp 9), type := 3, pos := "ref.go:79", after := #[], guard := none }) (v := ?_) rfl (by kernel_rfl) (by kernel_rfl) (by kernel_rfl) (by kernel_rfl) (by kernel_rfl) (fun _ _ _ h => h) (Or.inl ⟨rfl, ?_⟩) (by assumption) ?_
          rotate_left
          · (intro w' hSw; replace a1 := kept_cell hSw a1; replace g1 := kept_cell hSw g1; go_simp; try with_reducible rfl)
          try simp only [Act.put, List.setIfInBounds_toArray, List.set_cons_zero, List.set_cons_succ]
          refine x_take (i := 7) (oi := { dst := some 37, op := Op.indexAddr 35 (Operand.tmp 35) (Operand.tmp 36), type := 0, pos := "ref.go:79", after := #[{ on := 5, ground := Ground.data }, { on := 6, ground := Ground.data }], guard := none }) (v := ?_) rfl (by kernel_rfl) (by kernel_rfl) (by kernel_rfl) (by kernel_rfl) (by kernel_rfl) (fun _ _ _ h => h) (Or.inl ⟨rfl, ?_⟩) (by assumption) ?_
          rotate_left
          · (intro w' hSw; replace a1 := kept_cell hSw a1; replace g1 := kept_cell hSw g1; go_simp; try with_reducible rfl)
          try simp only [Act.put, List.setIfInBounds_toArray, List.set_cons_zero, List.set_cons_succ]
          refine x_take (i := 8) (oi := { dst := some 38, op := Op.fieldAddr 78 (Operand.tmp 37) 1, type := 0, pos := "ref.go:79", after := #[{ on := 7, ground := Ground.data }], guard := none }) (v := ?_) rfl (by kernel_rfl) (by kernel_rfl) (by kernel_rfl) (by kernel_rfl) (by kernel_rfl) (fun _ _ _ h => h) (Or.inl ⟨rfl, ?_⟩) (by assumption) ?_
          rotate_left
          · (intro w' hSw; replace a1 := kept_cell hSw a1; replace g1 := kept_cell hSw g1; go_simp; try with_reducible rfl)
          try simp only [Act.put, List.setIfInBounds_toArray, List.set_cons_zero, List.set_cons_succ]
          refine x_take (i := 9) (oi := { dst := some 39, op := Op.load 24 (Operand.tmp 38), type := 24, pos := "ref.go:79", after := #[{ on := 8, ground := Ground.data }], guard := none }) (v := ?_) rfl (by kernel_rfl) (by kernel_rfl) (by kernel_rfl) (by kernel_rfl) (by kernel_rfl) (fun _ _ _ h => h) (Or.inl ⟨rfl, ?_⟩) (by assumption) ?_
          rotate_left
          · (intro w' hSw; replace a1 := kept_cell hSw a1; replace g1 := kept_cell hSw g1; go_simp; try with_reducible rfl)
          try simp only [Act.put, List.setIfInBounds_toArray, List.set_cons_zero, List.set_cons_succ]
          refine x_one (i := 10) (o := { dst := some 40, op := Op.call { callee := Callee.value (Operand.func 39), args := #[Operand.tmp 34, Operand.tmp 39], argTypes := #[24, 24] }, type := 3, pos := "ref.go:79", after := #[{ on := 4, ground := Ground.data }, { on := 9, ground := Ground.data }], guard := none }) (by kernel_rfl) rfl (fun K hK => ?_)
          (go_simp; go_at_call 39; (with_reducible refine (C48.out _ hHeld).mono ?_); rintro e w4 ⟨rfl, kd⟩; have KK4 := kept_trans hHeld kd.kept; try dsimp only)
          refine hK.out _ _ ?_ (fun hHeld => ?_)
          · (try dsimp only); repeat (first | assumption | exact kept_refl _ | refine kept_drew ?_ | refine kept_alloc ?_ _ | refine kept_set ?_ (by omega) _)
          clear hK K
          try simp only [Act.put, List.setIfInBounds_toArray, List.set_cons_zero, List.set_cons_succ]
          refine x_take (i := 11) (oi := { dst := some 10, op := Op.assign (Operand.tmp 40), type := 3, pos := "ref.go:79", after := #[{ on := 10, ground := Ground.data }, { on := 10, ground := Ground.chain }, { on := 0, ground := Ground.phase }, { on := 1, ground := Ground.phase }, { on := 2, ground := Ground.phase }, { on := 3, ground := Ground.phase }, { on := 4, ground := Ground.phase }, { on := 5, ground := Ground.phase }, { on := 6, ground := Ground.phase }, { on := 7, ground := Ground.phase }, { on := 8, ground := Ground.phase }, { on := 9, ground := Ground.phase }, { on := 10, ground := Ground.phase }], guard := none }) (v := ?_) rfl (by kernel_rfl) (by kernel_rfl) (by kernel_rfl) (by kernel_rfl) (by kernel_rfl) (fun _ _ _ h => h) (Or.inl ⟨rfl, ?_⟩) (by assumption) ?_
          rotate_left
          · (intro w' hSw; replace a1 := kept_cell hSw a1; replace g1 := kept_cell hSw g1; go_simp; try with_reducible rfl)
          try simp only [Act.put, List.setIfInBounds_toArray, List.set_cons_zero, List.set_cons_succ]
          refine x_done (by kernel_rfl) ?_ _
          have hrow4 := row_kept hrow KK4
          have o34 := o3.kept KK4
          have K04 := kept_trans K0 KK4
          replace a0 := kept_cell KK4 a0; replace a1 := kept_cell KK4 a1; replace g0 := kept_cell KK4 g0; replace g1 := kept_cell KK4 g1
          have ol4 : w.heap.size + 1 ≤ w4.heap.size := by have := KK4.size; omega
          clear hrow o3 K0 y0 y1 y2 y3 hHeld
          go_wp2_with (at_builtin; go_loud (refine app_law (w.heap.size + 1) rfl (.tmp 43) (.tmp 48) 35 78 (.agg #[.int .i64 0, .slice none 0 0]) 2 32 rfl Tryz.underlying35 info67 rfl (by omega) (by omega) (.slice A7 S.length c7) S.length 1 (teCells S) [.int .i64 t.c, .slice E t.e.length ce] rfl rfl rfl (one_te _ _ _ _) hrow4 (by omega) (by omega) ?_; intro v1 w3 h3 hg3 hat3; obtain ⟨A1, c1, rfl⟩ := row_val h3))
          go_roundg ((p.length - (i + 1)) + (r.length - j))
          case rel => exact ⟨i + 1, j, A1, c1, S ++ [⟨t, E, ce⟩], _, _, by omega, by omega, rfl, by (rw [List.length_append]; rfl), by go_num, by go_num, rfl, rfl, by (rw [teCells_snoc, List.length_append]; exact h3), by (rw [List.length_append]; simp; omega), Lib.hid (by (rw [HM.out, HSTEP.out, if_pos (by omega), List.map_append, List.append_assoc]; rfl)), Lib.hid (fun y hy => (List.mem_append.1 hy).elim (HX.out y) (fun e => by (obtain rfl := List.mem_singleton.1 e; exact HEE.out))), kept_grown K04 hrow4 (by omega) hg3, o34.grown hg3 (fun e => by (have := own_from hrow4 e.symm; omega))⟩
          case measure => omega
        · have e1 : decide (cv < 0) = false := decide_eq_false hc1
          by_cases hc2 : 0 < cv
          · have e2 : decide (0 < cv) = true := decide_eq_true hc2
            go_upto_region 8 with fail
            refine region_x (fun w' => Kept wr w') [] (by kernel_rfl) (kept_drew (kept_refl _)) (fun hHeld => ?_)
            refine x_take (i := 0) (oi := { dst := some 30, op := Op.move (Operand.tmp 1), type := 35, pos := "ref.go:79", after := #[], guard := none }) (v := ?_) rfl (by kernel_rfl) (by kernel_rfl) (by kernel_rfl) (by kernel_rfl) (by kernel_rfl) (fun _ _ _ h => h) (Or.inl ⟨rfl, ?_⟩) (by assumption) ?_
            rotate_left
            · (intro w' hSw; replace a1 := kept_cell hSw a1; replace g1 := kept_cell hSw g1; go_simp; try with_reducible rfl)
            try simp only [Act.put, List.setIfInBounds_toArray, List.set_cons_zero, List.set_cons_succ]
            refine x_take (i := 1) (oi := { dst := some 31, op := Op.move (Operand.tmp 8), type := 3, pos := "ref.go:79", after := #[], guard := none }) (v := ?_) rfl (by kernel_rfl) (by kernel_rfl) (by kernel_rfl) (by kernel_rfl) (by kernel_rfl) (fun _ _ _ h => h) (Or.inl ⟨rfl, ?_⟩) (by assumption) ?_
            rotate_left
            · (intro w' hSw; replace a1 := kept_cell hSw a1; replace g1 := kept_cell hSw g1; go_simp; try with_reducible rfl)
            try simp only [Act.put, List.setIfInBounds_toArray, List.set_cons_zero, List.set_cons_succ]
            refine x_take (i := 2) (oi := { dst := some 32, op := Op.indexAddr 35 (Operand.tmp 30) (Operand.tmp 31), type := 0, pos := "ref.go:79", after := #[{ on := 0, ground := Ground.data }, { on := 1, ground := Ground.data }], guard := none }) (v := ?_) rfl (by kernel_rfl) (by kernel_rfl) (by kernel_rfl) (by kernel_rfl) (by kernel_rfl) (fun _ _ _ h => h) (Or.inl ⟨rfl, ?_⟩) (by assumption) ?_
            rotate_left
            · (intro w' hSw; replace a1 := kept_cell hSw a1; replace g1 := kept_cell hSw g1; go_simp; try with_reducible rfl)
            try simp only [Act.put, List.setIfInBounds_toArray, List.set_cons_zero, List.set_cons_succ]
            refine x_take (i := 3) (oi := { dst := some 33, op := Op.fieldAddr 78 (Operand.tmp 32) 1, type := 0, pos := "ref.go:79", after := #[{ on := 2, ground := Ground.data }], guard := none }) (v := ?_) rfl (by kernel_rfl) (by kernel_rfl) (by kernel_rfl) (by kernel_rfl) (by kernel_rfl) (fun _ _ _ h => h) (Or.inl ⟨rfl, ?_⟩) (by assumption) ?_
            rotate_left
            · (intro w' hSw; replace a1 := kept_cell hSw a1; replace g1 := kept_cell hSw g1; go_simp; try with_reducible rfl)
            try simp only [Act.put, List.setIfInBounds_toArray, List.set_cons_zero, List.set_cons_succ]
            refine x_take (i := 4) (oi := { dst := some 34, op := Op.load 24 (Operand.tmp 33), type := 24, pos := "ref.go:79", after := #[{ on := 3, ground := Ground.data }], guard := none }) (v := ?_) rfl (by kernel_rfl) (by kernel_rfl) (by kernel_rfl) (by kernel_rfl) (by kernel_rfl) (fun _ _ _ h => h) (Or.inl ⟨rfl, ?_⟩) (by assumption) ?_
            rotate_left
            · (intro w' hSw; replace a1 := kept_cell hSw a1; replace g1 := kept_cell hSw g1; go_simp; try with_reducible rfl)
            try simp only [Act.put, List.setIfInBounds_toArray, List.set_cons_zero, List.set_cons_succ]
            refine x_take (i := 5) (oi := { dst := some 35, op := Op.move (Operand.tmp 2), type := 35, pos := "ref.go:79", after := #[], guard := none }) (v := ?_) rfl (by kernel_rfl) (by kernel_rfl) (by kernel_rfl) (by kernel_rfl) (by kernel_rfl) (fun _ _ _ h => h) (Or.inl ⟨rfl, ?_⟩) (by assumption) ?_
            rotate_left
            · (intro w' hSw; replace a1 := kept_cell hSw a1; replace g1 := kept_cell hSw g1; go_simp; try with_reducible rfl)
            try simp only [Act.put, List.setIfInBounds_toArray, List.set_cons_zero, List.set_cons_succ]
            refine x_take (i := 6) (oi := { dst := some 36, op := Op.move (Operand.tmp 9), type := 3, pos := "ref.go:79", after := #[], guard := none }) (v := ?_) rfl (by kernel_rfl) (by kernel_rfl) (by kernel_rfl) (by kernel_rfl) (by kernel_rfl) (fun _ _ _ h => h) (Or.inl ⟨rfl, ?_⟩) (by assumption) ?_
            rotate_left
            · (intro w' hSw; replace a1 := kept_cell hSw a1; replace g1 := kept_cell hSw g1; go_simp; try with_reducible rfl)
            try simp only [Act.put, List.setIfInBounds_toArray, List.set_cons_zero, List.set_cons_succ]
            refine x_take (i := 7) (oi := { dst := some 37, op := Op.indexAddr 35 (Operand.tmp 35) (Operand.tmp 36), type := 0, pos := "ref.go:79", after := #[{ on := 5, ground := Ground.data }, { on := 6, ground := Ground.data }], guard := none }) (v := ?_) rfl (by kernel_rfl) (by kernel_rfl) (by kernel_rfl) (by kernel_rfl) (by kernel_rfl) (fun _ _ _ h => h) (Or.inl ⟨rfl, ?_⟩) (by assumption) ?_
            rotate_left
            · (intro w' hSw; replace a1 := kept_cell hSw a1; replace g1 := kept_cell hSw g1; go_simp; try with_reducible rfl)
            try simp only [Act.put, List.setIfInBounds_toArray, List.set_cons_zero, List.set_cons_succ]
            refine x_take (i := 8) (oi := { dst := some 38, op := Op.fieldAddr 78 (Operand.tmp 37) 1, type := 0, pos := "ref.go:79", after := #[{ on := 7, ground := Ground.data }], guard := none }) (v := ?_) rfl (by kernel_rfl) (by kernel_rfl) (by kernel_rfl) (by kernel_rfl) (by kernel_rfl) (fun _ _ _ h => h) (Or.inl ⟨rfl, ?_⟩) (by assumption) ?_
            rotate_left
            · (intro w' hSw; replace a1 := kept_cell hSw a1; replace g1 := kept_cell hSw g1; go_simp; try with_reducible rfl)
            try simp only [Act.put, List.setIfInBounds_toArray, List.set_cons_zero, List.set_cons_succ]
            refine x_take (i := 9) (oi := { dst := some 39, op := Op.load 24 (Operand.tmp 38), type := 24, pos := "ref.go:79", after := #[{ on := 8, ground := Ground.data }], guard := none }) (v := ?_) rfl (by kernel_rfl) (by kernel_rfl) (by kernel_rfl) (by kernel_rfl) (by kernel_rfl) (fun _ _ _ h => h) (Or.inl ⟨rfl, ?_⟩) (by assumption) ?_
            rotate_left
            · (intro w' hSw; replace a1 := kept_cell hSw a1; replace g1 := kept_cell hSw g1; go_simp; try with_reducible rfl)
            try simp only [Act.put, List.setIfInBounds_toArray, List.set_cons_zero, List.set_cons_succ]
            refine x_one (i := 10) (o := { dst := some 40, op := Op.call { callee := Callee.value (Operand.func 39), args := #[Operand.tmp 34, Operand.tmp 39], argTypes := #[24, 24] }, type := 3, pos := "ref.go:79", after := #[{ on := 4, ground := Ground.data }, { on := 9, ground := Ground.data }], guard := none }) (by kernel_rfl) rfl (fun K hK => ?_)
            (go_simp; go_at_call 39; (with_reducible refine (C48.out _ hHeld).mono ?_); rintro e w4 ⟨rfl, kd⟩; have KK4 := kept_trans hHeld kd.kept; try dsimp only)
            refine hK.out _ _ ?_ (fun hHeld => ?_)
            · (try dsimp only); repeat (first | assumption | exact kept_refl _ | refine kept_drew ?_ | refine kept_alloc ?_ _ | refine kept_set ?_ (by omega) _)
            clear hK K
            try simp only [Act.put, List.setIfInBounds_toArray, List.set_cons_zero, List.set_cons_succ]
            refine x_take (i := 11) (oi := { dst := some 10, op := Op.assign (Operand.tmp 40), type := 3, pos := "ref.go:79", after := #[{ on := 10, ground := Ground.data }, { on := 10, ground := Ground.chain }, { on := 0, ground := Ground.phase }, { on := 1, ground := Ground.phase }, { on := 2, ground := Ground.phase }, { on := 3, ground := Ground.phase }, { on := 4, ground := Ground.phase }, { on := 5, ground := Ground.phase }, { on := 6, ground := Ground.phase }, { on := 7, ground := Ground.phase }, { on := 8, ground := Ground.phase }, { on := 9, ground := Ground.phase }, { on := 10, ground := Ground.phase }], guard := none }) (v := ?_) rfl (by kernel_rfl) (by kernel_rfl) (by kernel_rfl) (by kernel_rfl) (by kernel_rfl) (fun _ _ _ h => h) (Or.inl ⟨rfl, ?_⟩) (by assumption) ?_
            rotate_left
            · (intro w' hSw; replace a1 := kept_cell hSw a1; replace g1 := kept_cell hSw g1; go_simp; try with_reducible rfl)
            try simp only [Act.put, List.setIfInBounds_toArray, List.set_cons_zero, List.set_cons_succ]
            refine x_done (by kernel_rfl) ?_ _
            have hrow4 := row_kept hrow KK4
            have o34 := o3.kept KK4
            have K04 := kept_trans K0 KK4
            replace a0 := kept_cell KK4 a0; replace a1 := kept_cell KK4 a1; replace g0 := kept_cell KK4 g0; replace g1 := kept_cell KK4 g1
            have ol4 : w.heap.size + 1 ≤ w4.heap.size := by have := KK4.size; omega
            clear hrow o3 K0 y0 y1 y2 y3 hHeld
            go_wp2_with (at_builtin; go_loud (refine app_law (w.heap.size + 1) rfl (.tmp 54) (.tmp 59) 35 78 (.agg #[.int .i64 0, .slice none 0 0]) 2 32 rfl Tryz.underlying35 info67 rfl (by omega) (by omega) (.slice A7 S.length c7) S.length 1 (teCells S) [.int .i64 u.c, .slice E2 u.e.length ce2] rfl rfl rfl (one_te _ _ _ _) hrow4 (by omega) (by omega) ?_; intro v1 w3 h3 hg3 hat3; obtain ⟨A1, c1, rfl⟩ := row_val h3))
            go_roundg ((p.length - i) + (r.length - (j + 1)))
            case rel => exact ⟨i, j + 1, A1, c1, S ++ [⟨u, E2, ce2⟩], _, _, by omega, by omega, rfl, by (rw [List.length_append]; rfl), by go_num, by go_num, rfl, rfl, by (rw [teCells_snoc, List.length_append]; exact h3), by (rw [List.length_append]; simp; omega), Lib.hid (by (rw [HM.out, HSTEP.out, if_neg (by omega), if_pos (by omega), List.map_append, List.append_assoc]; rfl)), Lib.hid (fun y hy => (List.mem_append.1 hy).elim (HX.out y) (fun e => by (obtain rfl := List.mem_singleton.1 e; exact HEE2.out))), kept_grown K04 hrow4 (by omega) hg3, o34.grown hg3 (fun e => by (have := own_from hrow4 e.symm; omega))⟩
            case measure => omega
          · have e2 : decide (0 < cv) = false := decide_eq_false hc2
            by_cases c3 : sv = 0
            · have e3 : (sv != 0) = false := by simpa using c3
              have HC3 := Lib.hid c3
              clear c3
              go_upto_region 8 with fail
              refine region_x (fun w' => Kept wr w') [] (by kernel_rfl) (kept_drew (kept_refl _)) (fun hHeld => ?_)
              refine x_take (i := 0) (oi := { dst := some 30, op := Op.move (Operand.tmp 1), type := 35, pos := "ref.go:79", after := #[], guard := none }) (v := ?_) rfl (by kernel_rfl) (by kernel_rfl) (by kernel_rfl) (by kernel_rfl) (by kernel_rfl) (fun _ _ _ h => h) (Or.inl ⟨rfl, ?_⟩) (by assumption) ?_
              rotate_left
              · (intro w' hSw; replace a1 := kept_cell hSw a1; replace g1 := kept_cell hSw g1; go_simp; try with_reducible rfl)
              try simp only [Act.put, List.setIfInBounds_toArray, List.set_cons_zero, List.set_cons_succ]
              refine x_take (i := 1) (oi := { dst := some 31, op := Op.move (Operand.tmp 8), type := 3, pos := "ref.go:79", after := #[], guard := none }) (v := ?_) rfl (by kernel_rfl) (by kernel_rfl) (by kernel_rfl) (by kernel_rfl) (by kernel_rfl) (fun _ _ _ h => h) (Or.inl ⟨rfl, ?_⟩) (by assumption) ?_
              rotate_left
              · (intro w' hSw; replace a1 := kept_cell hSw a1; replace g1 := kept_cell hSw g1; go_simp; try with_reducible rfl)
              try simp only [Act.put, List.setIfInBounds_toArray, List.set_cons_zero, List.set_cons_succ]
              refine x_take (i := 2) (oi := { dst := some 32, op := Op.indexAddr 35 (Operand.tmp 30) (Operand.tmp 31), type := 0, pos := "ref.go:79", after := #[{ on := 0, ground := Ground.data }, { on := 1, ground := Ground.data }], guard := none }) (v := ?_) rfl (by kernel_rfl) (by kernel_rfl) (by kernel_rfl) (by kernel_rfl) (by kernel_rfl) (fun _ _ _ h => h) (Or.inl ⟨rfl, ?_⟩) (by assumption) ?_
              rotate_left
              · (intro w' hSw; replace a1 := kept_cell hSw a1; replace g1 := kept_cell hSw g1; go_simp; try with_reducible rfl)
              try simp only [Act.put, List.setIfInBounds_toArray, List.set_cons_zero, List.set_cons_succ]
              refine x_take (i := 3) (oi := { dst := some 33, op := Op.fieldAddr 78 (Operand.tmp 32) 1, type := 0, pos := "ref.go:79", after := #[{ on := 2, ground := Ground.data }], guard := none }) (v := ?_) rfl (by kernel_rfl) (by kernel_rfl) (by kernel_rfl) (by kernel_rfl) (by kernel_rfl) (fun _ _ _ h => h) (Or.inl ⟨rfl, ?_⟩) (by assumption) ?_
              rotate_left
              · (intro w' hSw; replace a1 := kept_cell hSw a1; replace g1 := kept_cell hSw g1; go_simp; try with_reducible rfl)
              try simp only [Act.put, List.setIfInBounds_toArray, List.set_cons_zero, List.set_cons_succ]
              refine x_take (i := 4) (oi := { dst := some 34, op := Op.load 24 (Operand.tmp 33), type := 24, pos := "ref.go:79", after := #[{ on := 3, ground := Ground.data }], guard := none }) (v := ?_) rfl (by kernel_rfl) (by kernel_rfl) (by kernel_rfl) (by kernel_rfl) (by kernel_rfl) (fun _ _ _ h => h) (Or.inl ⟨rfl, ?_⟩) (by assumption) ?_
              rotate_left
              · (intro w' hSw; replace a1 := kept_cell hSw a1; replace g1 := kept_cell hSw g1; go_simp; try with_reducible rfl)
              try simp only [Act.put, List.setIfInBounds_toArray, List.set_cons_zero, List.set_cons_succ]
              refine x_take (i := 5) (oi := { dst := some 35, op := Op.move (Operand.tmp 2), type := 35, pos := "ref.go:79", after := #[], guard := none }) (v := ?_) rfl (by kernel_rfl) (by kernel_rfl) (by kernel_rfl) (by kernel_rfl) (by kernel_rfl) (fun _ _ _ h => h) (Or.inl ⟨rfl, ?_⟩) (by assumption) ?_
              rotate_left
              · (intro w' hSw; replace a1 := kept_cell hSw a1; replace g1 := kept_cell hSw g1; go_simp; try with_reducible rfl)
              try simp only [Act.put, List.setIfInBounds_toArray, List.set_cons_zero, List.set_cons_succ]
              refine x_take (i := 6) (oi := { dst := some 36, op := Op.move (Operand.tmp 9), type := 3, pos := "ref.go:79", after := #[], guard := none }) (v := ?_) rfl (by kernel_rfl) (by kernel_rfl) (by kernel_rfl) (by kernel_rfl) (by kernel_rfl) (fun _ _ _ h => h) (Or.inl ⟨rfl, ?_⟩) (by assumption) ?_
              rotate_left
              · (intro w' hSw; replace a1 := kept_cell hSw a1; replace g1 := kept_cell hSw g1; go_simp; try with_reducible rfl)
              try simp only [Act.put, List.setIfInBounds_toArray, List.set_cons_zero, List.set_cons_succ]
              refine x_take (i := 7) (oi := { dst := some 37, op := Op.indexAddr 35 (Operand.tmp 35) (Operand.tmp 36), type := 0, pos := "ref.go:79", after := #[{ on := 5, ground := Ground.data }, { on := 6, ground := Ground.data }], guard := none }) (v := ?_) rfl (by kernel_rfl) (by kernel_rfl) (by kernel_rfl) (by kernel_rfl) (by kernel_rfl) (fun _ _ _ h => h) (Or.inl ⟨rfl, ?_⟩) (by assumption) ?_
              rotate_left
              · (intro w' hSw; replace a1 := kept_cell hSw a1; replace g1 := kept_cell hSw g1; go_simp; try with_reducible rfl)
              try simp only [Act.put, List.setIfInBounds_toArray, List.set_cons_zero, List.set_cons_succ]
              refine x_take (i := 8) (oi := { dst := some 38, op := Op.fieldAddr 78 (Operand.tmp 37) 1, type := 0, pos := "ref.go:79", after := #[{ on := 7, ground := Ground.data }], guard := none }) (v := ?_) rfl (by kernel_rfl) (by kernel_rfl) (by kernel_rfl) (by kernel_rfl) (by kernel_rfl) (fun _ _ _ h => h) (Or.inl ⟨rfl, ?_⟩) (by assumption) ?_
              rotate_left
              · (intro w' hSw; replace a1 := kept_cell hSw a1; replace g1 := kept_cell hSw g1; go_simp; try with_reducible rfl)
              try simp only [Act.put, List.setIfInBounds_toArray, List.set_cons_zero, List.set_cons_succ]
              refine x_take (i := 9) (oi := { dst := some 39, op := Op.load 24 (Operand.tmp 38), type := 24, pos := "ref.go:79", after := #[{ on := 8, ground := Ground.data }], guard := none }) (v := ?_) rfl (by kernel_rfl) (by kernel_rfl) (by kernel_rfl) (by kernel_rfl) (by kernel_rfl) (fun _ _ _ h => h) (Or.inl ⟨rfl, ?_⟩) (by assumption) ?_
              rotate_left
              · (intro w' hSw; replace a1 := kept_cell hSw a1; replace g1 := kept_cell hSw g1; go_simp; try with_reducible rfl)
              try simp only [Act.put, List.setIfInBounds_toArray, List.set_cons_zero, List.set_cons_succ]
              refine x_one (i := 10) (o := { dst := some 40, op := Op.call { callee := Callee.value (Operand.func 39), args := #[Operand.tmp 34, Operand.tmp 39], argTypes := #[24, 24] }, type := 3, pos := "ref.go:79", after := #[{ on := 4, ground := Ground.data }, { on := 9, ground := Ground.data }], guard := none }) (by kernel_rfl) rfl (fun K hK => ?_)
              (go_simp; go_at_call 39; (with_reducible refine (C48.out _ hHeld).mono ?_); rintro e w4 ⟨rfl, kd⟩; have KK4 := kept_trans hHeld kd.kept; try dsimp only)
              refine hK.out _ _ ?_ (fun hHeld => ?_)
              · (try dsimp only); repeat (first | assumption | exact kept_refl _ | refine kept_drew ?_ | refine kept_alloc ?_ _ | refine kept_set ?_ (by omega) _)
              clear hK K
              try simp only [Act.put, List.setIfInBounds_toArray, List.set_cons_zero, List.set_cons_succ]
              refine x_take (i := 11) (oi := { dst := some 10, op := Op.assign (Operand.tmp 40), type := 3, pos := "ref.go:79", after := #[{ on := 10, ground := Ground.data }, { on := 10, ground := Ground.chain }, { on := 0, ground := Ground.phase }, { on := 1, ground := Ground.phase }, { on := 2, ground := Ground.phase }, { on := 3, ground := Ground.phase }, { on := 4, ground := Ground.phase }, { on := 5, ground := Ground.phase }, { on := 6, ground := Ground.phase }, { on := 7, ground := Ground.phase }, { on := 8, ground := Ground.phase }, { on := 9, ground := Ground.phase }, { on := 10, ground := Ground.phase }], guard := none }) (v := ?_) rfl (by kernel_rfl) (by kernel_rfl) (by kernel_rfl) (by kernel_rfl) (by kernel_rfl) (fun _ _ _ h => h) (Or.inl ⟨rfl, ?_⟩) (by assumption) ?_
              rotate_left
              · (intro w' hSw; replace a1 := kept_cell hSw a1; replace g1 := kept_cell hSw g1; go_simp; try with_reducible rfl)
              try simp only [Act.put, List.setIfInBounds_toArray, List.set_cons_zero, List.set_cons_succ]
              refine x_done (by kernel_rfl) ?_ _
              have hrow4 := row_kept hrow KK4
              have o34 := o3.kept KK4
              have K04 := kept_trans K0 KK4
              replace a0 := kept_cell KK4 a0; replace a1 := kept_cell KK4 a1; replace g0 := kept_cell KK4 g0; replace g1 := kept_cell KK4 g1
              have ol4 : w.heap.size + 1 ≤ w4.heap.size := by have := KK4.size; omega
              clear hrow o3 K0 y0 y1 y2 y3 hHeld
              have y0 := o34.cell (j := 0) rfl; have y1 := o34.cell (j := 1) rfl; have y2 := o34.cell (j := 2) rfl; have y3 := o34.cell (j := 3) rfl
              go_upto_region 15 with fail
              refine region_x (fun w' => Kept w4 w') [] (by kernel_rfl) (kept_drew (kept_refl _)) (fun hHeld => ?_)
              refine x_take (i := 0) (oi := { dst := some 63, op := Op.load 45 (Operand.tmp 3), type := 45, pos := "ref.go:91", after := #[], guard := none }) (v := ?_) rfl (by kernel_rfl) (by kernel_rfl) (by kernel_rfl) (by kernel_rfl) (by kernel_rfl) (fun _ _ _ h => h) (Or.inl ⟨rfl, ?_⟩) (by assumption) ?_
              rotate_left
              · (intro w' hSw; replace a0 := kept_cell hSw a0; replace g0 := kept_cell hSw g0; replace y0 := kept_cell hSw y0; replace y1 := kept_cell hSw y1; replace y2 := kept_cell hSw y2; replace y3 := kept_cell hSw y3; go_simp; try with_reducible rfl)
              try simp only [Act.put, List.setIfInBounds_toArray, List.set_cons_zero, List.set_cons_succ]
              refine x_take (i := 1) (oi := { dst := some 64, op := Op.move (Operand.tmp 1), type := 35, pos := "ref.go:91", after := #[], guard := none }) (v := ?_) rfl (by kernel_rfl) (by kernel_rfl) (by kernel_rfl) (by kernel_rfl) (by kernel_rfl) (fun _ _ _ h => h) (Or.inl ⟨rfl, ?_⟩) (by assumption) ?_
              rotate_left
              · (intro w' hSw; replace a0 := kept_cell hSw a0; replace g0 := kept_cell hSw g0; replace y0 := kept_cell hSw y0; replace y1 := kept_cell hSw y1; replace y2 := kept_cell hSw y2; replace y3 := kept_cell hSw y3; go_simp; try with_reducible rfl)
              try simp only [Act.put, List.setIfInBounds_toArray, List.set_cons_zero, List.set_cons_succ]
              refine x_take (i := 2) (oi := { dst := some 65, op := Op.move (Operand.tmp 8), type := 3, pos := "ref.go:91", after := #[], guard := none }) (v := ?_) rfl (by kernel_rfl) (by kernel_rfl) (by kernel_rfl) (by kernel_rfl) (by kernel_rfl) (fun _ _ _ h => h) (Or.inl ⟨rfl, ?_⟩) (by assumption) ?_
              rotate_left
              · (intro w' hSw; replace a0 := kept_cell hSw a0; replace g0 := kept_cell hSw g0; replace y0 := kept_cell hSw y0; replace y1 := kept_cell hSw y1; replace y2 := kept_cell hSw y2; replace y3 := kept_cell hSw y3; go_simp; try with_reducible rfl)
              try simp only [Act.put, List.setIfInBounds_toArray, List.set_cons_zero, List.set_cons_succ]
              refine x_take (i := 3) (oi := { dst := some 66, op := Op.indexAddr 35 (Operand.tmp 64) (Operand.tmp 65), type := 0, pos := "ref.go:91", after := #[{ on := 1, ground := Ground.data }, { on := 2, ground := Ground.data }], guard := none }) (v := ?_) rfl (by kernel_rfl) (by kernel_rfl) (by kernel_rfl) (by kernel_rfl) (by kernel_rfl) (fun _ _ _ h => h) (Or.inl ⟨rfl, ?_⟩) (by assumption) ?_
              rotate_left
              · (intro w' hSw; replace a0 := kept_cell hSw a0; replace g0 := kept_cell hSw g0; replace y0 := kept_cell hSw y0; replace y1 := kept_cell hSw y1; replace y2 := kept_cell hSw y2; replace y3 := kept_cell hSw y3; go_simp; try with_reducible rfl)
              try simp only [Act.put, List.setIfInBounds_toArray, List.set_cons_zero, List.set_cons_succ]
              refine x_take (i := 4) (oi := { dst := some 67, op := Op.fieldAddr 78 (Operand.tmp 66) 0, type := 0, pos := "ref.go:91", after := #[{ on := 3, ground := Ground.data }], guard := none }) (v := ?_) rfl (by kernel_rfl) (by kernel_rfl) (by kernel_rfl) (by kernel_rfl) (by kernel_rfl) (fun _ _ _ h => h) (Or.inl ⟨rfl, ?_⟩) (by assumption) ?_
              rotate_left
              · (intro w' hSw; replace a0 := kept_cell hSw a0; replace g0 := kept_cell hSw g0; replace y0 := kept_cell hSw y0; replace y1 := kept_cell hSw y1; replace y2 := kept_cell hSw y2; replace y3 := kept_cell hSw y3; go_simp; try with_reducible rfl)
              try simp only [Act.put, List.setIfInBounds_toArray, List.set_cons_zero, List.set_cons_succ]
              refine x_take (i := 5) (oi := { dst := some 68, op := Op.load 3 (Operand.tmp 67), type := 3, pos := "ref.go:91", after := #[{ on := 4, ground := Ground.data }], guard := none }) (v := ?_) rfl (by kernel_rfl) (by kernel_rfl) (by kernel_rfl) (by kernel_rfl) (by kernel_rfl) (fun _ _ _ h => h) (Or.inl ⟨rfl, ?_⟩) (by assumption) ?_
              rotate_left
              · (intro w' hSw; replace a0 := kept_cell hSw a0; replace g0 := kept_cell hSw g0; replace y0 := kept_cell hSw y0; replace y1 := kept_cell hSw y1; replace y2 := kept_cell hSw y2; replace y3 := kept_cell hSw y3; go_simp; try with_reducible rfl)
              try simp only [Act.put, List.setIfInBounds_toArray, List.set_cons_zero, List.set_cons_succ]
              refine x_take (i := 6) (oi := { dst := some 69, op := Op.move (Operand.tmp 2), type := 35, pos := "ref.go:91", after := #[], guard := none }) (v := ?_) rfl (by kernel_rfl) (by kernel_rfl) (by kernel_rfl) (by kernel_rfl) (by kernel_rfl) (fun _ _ _ h => h) (Or.inl ⟨rfl, ?_⟩) (by assumption) ?_
              rotate_left
              · (intro w' hSw; replace a0 := kept_cell hSw a0; replace g0 := kept_cell hSw g0; replace y0 := kept_cell hSw y0; replace y1 := kept_cell hSw y1; replace y2 := kept_cell hSw y2; replace y3 := kept_cell hSw y3; go_simp; try with_reducible rfl)
              try simp only [Act.put, List.setIfInBounds_toArray, List.set_cons_zero, List.set_cons_succ]
              refine x_take (i := 7) (oi := { dst := some 70, op := Op.move (Operand.tmp 9), type := 3, pos := "ref.go:91", after := #[], guard := none }) (v := ?_) rfl (by kernel_rfl) (by kernel_rfl) (by kernel_rfl) (by kernel_rfl) (by kernel_rfl) (fun _ _ _ h => h) (Or.inl ⟨rfl, ?_⟩) (by assumption) ?_
              rotate_left
              · (intro w' hSw; replace a0 := kept_cell hSw a0; replace g0 := kept_cell hSw g0; replace y0 := kept_cell hSw y0; replace y1 := kept_cell hSw y1; replace y2 := kept_cell hSw y2; replace y3 := kept_cell hSw y3; go_simp; try with_reducible rfl)
              try simp only [Act.put, List.setIfInBounds_toArray, List.set_cons_zero, List.set_cons_succ]
              refine x_take (i := 8) (oi := { dst := some 71, op := Op.indexAddr 35 (Operand.tmp 69) (Operand.tmp 70), type := 0, pos := "ref.go:91", after := #[{ on := 6, ground := Ground.data }, { on := 7, ground := Ground.data }], guard := none }) (v := ?_) rfl (by kernel_rfl) (by kernel_rfl) (by kernel_rfl) (by kernel_rfl) (by kernel_rfl) (fun _ _ _ h => h) (Or.inl ⟨rfl, ?_⟩) (by assumption) ?_
              rotate_left
              · (intro w' hSw; replace a0 := kept_cell hSw a0; replace g0 := kept_cell hSw g0; replace y0 := kept_cell hSw y0; replace y1 := kept_cell hSw y1; replace y2 := kept_cell hSw y2; replace y3 := kept_cell hSw y3; go_simp; try with_reducible rfl)
              try simp only [Act.put, List.setIfInBounds_toArray, List.set_cons_zero, List.set_cons_succ]
              refine x_take (i := 9) (oi := { dst := some 72, op := Op.fieldAddr 78 (Operand.tmp 71) 0, type := 0, pos := "ref.go:91", after := #[{ on := 8, ground := Ground.data }], guard := none }) (v := ?_) rfl (by kernel_rfl) (by kernel_rfl) (by kernel_rfl) (by kernel_rfl) (by kernel_rfl) (fun _ _ _ h => h) (Or.inl ⟨rfl, ?_⟩) (by assumption) ?_
              rotate_left
              · (intro w' hSw; replace a0 := kept_cell hSw a0; replace g0 := kept_cell hSw g0; replace y0 := kept_cell hSw y0; replace y1 := kept_cell hSw y1; replace y2 := kept_cell hSw y2; replace y3 := kept_cell hSw y3; go_simp; try with_reducible rfl)
              try simp only [Act.put, List.setIfInBounds_toArray, List.set_cons_zero, List.set_cons_succ]
              refine x_take (i := 10) (oi := { dst := some 73, op := Op.load 3 (Operand.tmp 72), type := 3, pos := "ref.go:91", after := #[{ on := 9, ground := Ground.data }], guard := none }) (v := ?_) rfl (by kernel_rfl) (by kernel_rfl) (by kernel_rfl) (by kernel_rfl) (by kernel_rfl) (fun _ _ _ h => h) (Or.inl ⟨rfl, ?_⟩) (by assumption) ?_
              rotate_left
              · (intro w' hSw; replace a0 := kept_cell hSw a0; replace g0 := kept_cell hSw g0; replace y0 := kept_cell hSw y0; replace y1 := kept_cell hSw y1; replace y2 := kept_cell hSw y2; replace y3 := kept_cell hSw y3; go_simp; try with_reducible rfl)
              try simp only [Act.put, List.setIfInBounds_toArray, List.set_cons_zero, List.set_cons_succ]
              refine x_one (i := 11) (o := { dst := some 74, op := Op.call { callee := Callee.value (Operand.func 40), args := #[Operand.tmp 63, Operand.tmp 68, Operand.tmp 73], argTypes := #[45, 3, 3] }, type := 3, pos := "ref.go:91", after := #[{ on := 0, ground := Ground.data }, { on := 5, ground := Ground.data }, { on := 10, ground := Ground.data }], guard := none }) (by kernel_rfl) rfl (fun K hK => ?_)
              (go_simp; go_at_call 40; (with_reducible refine (C53'.out _).mono ?_); rintro e w6 ⟨rfl, kd6⟩; have KK6 := kept_trans hHeld kd6; try dsimp only)
              refine hK.out _ _ ?_ (fun hHeld => ?_)
              · (try dsimp only); repeat (first | assumption | exact kept_refl _ | refine kept_drew ?_ | refine kept_alloc ?_ _ | refine kept_set ?_ (by omega) _)
              clear hK K
              try simp only [Act.put, List.setIfInBounds_toArray, List.set_cons_zero, List.set_cons_succ]
              refine x_take (i := 12) (oi := { dst := some 11, op := Op.assign (Operand.tmp 74), type := 3, pos := "ref.go:91", after := #[{ on := 11, ground := Ground.data }, { on := 11, ground := Ground.chain }, { on := 0, ground := Ground.phase }, { on := 1, ground := Ground.phase }, { on := 2, ground := Ground.phase }, { on := 3, ground := Ground.phase }, { on := 4, ground := Ground.phase }, { on := 5, ground := Ground.phase }, { on := 6, ground := Ground.phase }, { on := 7, ground := Ground.phase }, { on := 8, ground := Ground.phase }, { on := 9, ground := Ground.phase }, { on := 10, ground := Ground.phase }, { on := 11, ground := Ground.phase }], guard := none }) (v := ?_) rfl (by kernel_rfl) (by kernel_rfl) (by kernel_rfl) (by kernel_rfl) (by kernel_rfl) (fun _ _ _ h => h) (Or.inl ⟨rfl, ?_⟩) (by assumption) ?_
              rotate_left
              · (intro w' hSw; replace a0 := kept_cell hSw a0; replace g0 := kept_cell hSw g0; replace y0 := kept_cell hSw y0; replace y1 := kept_cell hSw y1; replace y2 := kept_cell hSw y2; replace y3 := kept_cell hSw y3; go_simp; try with_reducible rfl)
              try simp only [Act.put, List.setIfInBounds_toArray, List.set_cons_zero, List.set_cons_succ]
              refine x_done (by kernel_rfl) ?_ _
              have hrow6 := row_kept hrow4 KK6
              have o36 := o34.kept KK6
              have K06 := kept_trans K04 KK6
              replace a1 := kept_cell KK6 a1
              have ol6 : w.heap.size + 1 ≤ w6.heap.size := by have := KK6.size; omega
              clear hrow4 o34 K04 y0 y1 y2 y3 hHeld a0 g0
              go_wp2_with fail
              go_roundg ((p.length - (i + 1)) + (r.length - (j + 1)))
              case rel => exact ⟨i + 1, j + 1, A7, c7, S, _, _, by omega, by omega, rfl, rfl, by go_num, by go_num, rfl, rfl, hrow6, by omega, Lib.hid (by (rw [HM.out, HSTEP.out, if_neg (by omega), if_neg (by omega), if_neg (by have := HC3.out; simpa using this)])), HX, K06, o36⟩
              case measure => omega
            · have e3 : (sv != 0) = true := by simpa using c3
              have HC3 := Lib.hid c3
              clear c3
              go_upto_region 8 with fail
              refine region_x (fun w' => Kept wr w') [] (by kernel_rfl) (kept_drew (kept_refl _)) (fun hHeld => ?_)
              refine x_take (i := 0) (oi := { dst := some 30, op := Op.move (Operand.tmp 1), type := 35, pos := "ref.go:79", after := #[], guard := none }) (v := ?_) rfl (by kernel_rfl) (by kernel_rfl) (by kernel_rfl) (by kernel_rfl) (by kernel_rfl) (fun _ _ _ h => h) (Or.inl ⟨rfl, ?_⟩) (by assumption) ?_
              rotate_left
              · (intro w' hSw; replace a1 := kept_cell hSw a1; replace g1 := kept_cell hSw g1; go_simp; try with_reducible rfl)
              try simp only [Act.put, List.setIfInBounds_toArray, List.set_cons_zero, List.set_cons_succ]
              refine x_take (i := 1) (oi := { dst := some 31, op := Op.move (Operand.tmp 8), type := 3, pos := "ref.go:79", after := #[], guard := none }) (v := ?_) rfl (by kernel_rfl) (by kernel_rfl) (by kernel_rfl) (by kernel_rfl) (by kernel_rfl) (fun _ _ _ h => h) (Or.inl ⟨rfl, ?_⟩) (by assumption) ?_
              rotate_left
              · (intro w' hSw; replace a1 := kept_cell hSw a1; replace g1 := kept_cell hSw g1; go_simp; try with_reducible rfl)
              try simp only [Act.put, List.setIfInBounds_toArray, List.set_cons_zero, List.set_cons_succ]
              refine x_take (i := 2) (oi := { dst := some 32, op := Op.indexAddr 35 (Operand.tmp 30) (Operand.tmp 31), type := 0, pos := "ref.go:79", after := #[{ on := 0, ground := Ground.data }, { on := 1, ground := Ground.data }], guard := none }) (v := ?_) rfl (by kernel_rfl) (by kernel_rfl) (by kernel_rfl) (by kernel_rfl) (by kernel_rfl) (fun _ _ _ h => h) (Or.inl ⟨rfl, ?_⟩) (by assumption) ?_
              rotate_left
              · (intro w' hSw; replace a1 := kept_cell hSw a1; replace g1 := kept_cell hSw g1; go_simp; try with_reducible rfl)
              try simp only [Act.put, List.setIfInBounds_toArray, List.set_cons_zero, List.set_cons_succ]
              refine x_take (i := 3) (oi := { dst := some 33, op := Op.fieldAddr 78 (Operand.tmp 32) 1, type := 0, pos := "ref.go:79", after := #[{ on := 2, ground := Ground.data }], guard := none }) (v := ?_) rfl (by kernel_rfl) (by kernel_rfl) (by kernel_rfl) (by kernel_rfl) (by kernel_rfl) (fun _ _ _ h => h) (Or.inl ⟨rfl, ?_⟩) (by assumption) ?_
              rotate_left
              · (intro w' hSw; replace a1 := kept_cell hSw a1; replace g1 := kept_cell hSw g1; go_simp; try with_reducible rfl)
              try simp only [Act.put, List.setIfInBounds_toArray, List.set_cons_zero, List.set_cons_succ]
              refine x_take (i := 4) (oi := { dst := some 34, op := Op.load 24 (Operand.tmp 33), type := 24, pos := "ref.go:79", after := #[{ on := 3, ground := Ground.data }], guard := none }) (v := ?_) rfl (by kernel_rfl) (by kernel_rfl) (by kernel_rfl) (by kernel_rfl) (by kernel_rfl) (fun _ _ _ h => h) (Or.inl ⟨rfl, ?_⟩) (by assumption) ?_
              rotate_left
              · (intro w' hSw; replace a1 := kept_cell hSw a1; replace g1 := kept_cell hSw g1; go_simp; try with_reducible rfl)
              try simp only [Act.put, List.setIfInBounds_toArray, List.set_cons_zero, List.set_cons_succ]
              refine x_take (i := 5) (oi := { dst := some 35, op := Op.move (Operand.tmp 2), type := 35, pos := "ref.go:79", after := #[], guard := none }) (v := ?_) rfl (by kernel_rfl) (by kernel_rfl) (by kernel_rfl) (by kernel_rfl) (by kernel_rfl) (fun _ _ _ h => h) (Or.inl ⟨rfl, ?_⟩) (by assumption) ?_
              rotate_left
              · (intro w' hSw; replace a1 := kept_cell hSw a1; replace g1 := kept_cell hSw g1; go_simp; try with_reducible rfl)
              try simp only [Act.put, List.setIfInBounds_toArray, List.set_cons_zero, List.set_cons_succ]
              refine x_take (i := 6) (oi := { dst := some 36, op := Op.move (Operand.tmp 9), type := 3, pos := "ref.go:79", after := #[], guard := none }) (v := ?_) rfl (by kernel_rfl) (by kernel_rfl) (by kernel_rfl) (by kernel_rfl) (by kernel_rfl) (fun _ _ _ h => h) (Or.inl ⟨rfl, ?_⟩) (by assumption) ?_
              rotate_left
              · (intro w' hSw; replace a1 := kept_cell hSw a1; replace g1 := kept_cell hSw g1; go_simp; try with_reducible rfl)
              try simp only [Act.put, List.setIfInBounds_toArray, List.set_cons_zero, List.set_cons_succ]
              refine x_take (i := 7) (oi := { dst := some 37, op := Op.indexAddr 35 (Operand.tmp 35) (Operand.tmp 36), type := 0, pos := "ref.go:79", after := #[{ on := 5, ground := Ground.data }, { on := 6, ground := Ground.data }], guard := none }) (v := ?_) rfl (by kernel_rfl) (by kernel_rfl) (by kernel_rfl) (by kernel_rfl) (by kernel_rfl) (fun _ _ _ h => h) (Or.inl ⟨rfl, ?_⟩) (by assumption) ?_
              rotate_left
              · (intro w' hSw; replace a1 := kept_cell hSw a1; replace g1 := kept_cell hSw g1; go_simp; try with_reducible rfl)
              try simp only [Act.put, List.setIfInBounds_toArray, List.set_cons_zero, List.set_cons_succ]
              refine x_take (i := 8) (oi := { dst := some 38, op := Op.fieldAddr 78 (Operand.tmp 37) 1, type := 0, pos := "ref.go:79", after := #[{ on := 7, ground := Ground.data }], guard := none }) (v := ?_) rfl (by kernel_rfl) (by kernel_rfl) (by kernel_rfl) (by kernel_rfl) (by kernel_rfl) (fun _ _ _ h => h) (Or.inl ⟨rfl, ?_⟩) (by assumption) ?_
              rotate_left
              · (intro w' hSw; replace a1 := kept_cell hSw a1; replace g1 := kept_cell hSw g1; go_simp; try with_reducible rfl)
              try simp only [Act.put, List.setIfInBounds_toArray, List.set_cons_zero, List.set_cons_succ]
              refine x_take (i := 9) (oi := { dst := some 39, op := Op.load 24 (Operand.tmp 38), type := 24, pos := "ref.go:79", after := #[{ on := 8, ground := Ground.data }], guard := none }) (v := ?_) rfl (by kernel_rfl) (by kernel_rfl) (by kernel_rfl) (by kernel_rfl) (by kernel_rfl) (fun _ _ _ h => h) (Or.inl ⟨rfl, ?_⟩) (by assumption) ?_
              rotate_left
              · (intro w' hSw; replace a1 := kept_cell hSw a1; replace g1 := kept_cell hSw g1; go_simp; try with_reducible rfl)
              try simp only [Act.put, List.setIfInBounds_toArray, List.set_cons_zero, List.set_cons_succ]
              refine x_one (i := 10) (o := { dst := some 40, op := Op.call { callee := Callee.value (Operand.func 39), args := #[Operand.tmp 34, Operand.tmp 39], argTypes := #[24, 24] }, type := 3, pos := "ref.go:79", after := #[{ on := 4, ground := Ground.data }, { on := 9, ground := Ground.data }], guard := none }) (by kernel_rfl) rfl (fun K hK => ?_)
              (go_simp; go_at_call 39; (with_reducible refine (C48.out _ hHeld).mono ?_); rintro e w4 ⟨rfl, kd⟩; have KK4 := kept_trans hHeld kd.kept; try dsimp only)
              refine hK.out _ _ ?_ (fun hHeld => ?_)
              · (try dsimp only); repeat (first | assumption | exact kept_refl _ | refine kept_drew ?_ | refine kept_alloc ?_ _ | refine kept_set ?_ (by omega) _)
              clear hK K
              try simp only [Act.put, List.setIfInBounds_toArray, List.set_cons_zero, List.set_cons_succ]
              refine x_take (i := 11) (oi := { dst := some 10, op := Op.assign (Operand.tmp 40), type := 3, pos := "ref.go:79", after := #[{ on := 10, ground := Ground.data }, { on := 10, ground := Ground.chain }, { on := 0, ground := Ground.phase }, { on := 1, ground := Ground.phase }, { on := 2, ground := Ground.phase }, { on := 3, ground := Ground.phase }, { on := 4, ground := Ground.phase }, { on := 5, ground := Ground.phase }, { on := 6, ground := Ground.phase }, { on := 7, ground := Ground.phase }, { on := 8, ground := Ground.phase }, { on := 9, ground := Ground.phase }, { on := 10, ground := Ground.phase }], guard := none }) (v := ?_) rfl (by kernel_rfl) (by kernel_rfl) (by kernel_rfl) (by kernel_rfl) (by kernel_rfl) (fun _ _ _ h => h) (Or.inl ⟨rfl, ?_⟩) (by assumption) ?_
              rotate_left
              · (intro w' hSw; replace a1 := kept_cell hSw a1; replace g1 := kept_cell hSw g1; go_simp; try with_reducible rfl)
              try simp only [Act.put, List.setIfInBounds_toArray, List.set_cons_zero, List.set_cons_succ]
              refine x_done (by kernel_rfl) ?_ _
              have hrow4 := row_kept hrow KK4
              have o34 := o3.kept KK4
              have K04 := kept_trans K0 KK4
              replace a0 := kept_cell KK4 a0; replace a1 := kept_cell KK4 a1; replace g0 := kept_cell KK4 g0; replace g1 := kept_cell KK4 g1
              have ol4 : w.heap.size + 1 ≤ w4.heap.size := by have := KK4.size; omega
              clear hrow o3 K0 y0 y1 y2 y3 hHeld
              have y0 := o34.cell (j := 0) rfl; have y1 := o34.cell (j := 1) rfl; have y2 := o34.cell (j := 2) rfl; have y3 := o34.cell (j := 3) rfl
              go_upto_region 15 with fail
              refine region_x (fun w' => Kept w4 w') [] (by kernel_rfl) (kept_drew (kept_refl _)) (fun hHeld => ?_)
              refine x_take (i := 0) (oi := { dst := some 63, op := Op.load 45 (Operand.tmp 3), type := 45, pos := "ref.go:91", after := #[], guard := none }) (v := ?_) rfl (by kernel_rfl) (by kernel_rfl) (by kernel_rfl) (by kernel_rfl) (by kernel_rfl) (fun _ _ _ h => h) (Or.inl ⟨rfl, ?_⟩) (by assumption) ?_
              rotate_left
              · (intro w' hSw; replace a0 := kept_cell hSw a0; replace g0 := kept_cell hSw g0; replace y0 := kept_cell hSw y0; replace y1 := kept_cell hSw y1; replace y2 := kept_cell hSw y2; replace y3 := kept_cell hSw y3; go_simp; try with_reducible rfl)
              try simp only [Act.put, List.setIfInBounds_toArray, List.set_cons_zero, List.set_cons_succ]
              refine x_take (i := 1) (oi := { dst := some 64, op := Op.move (Operand.tmp 1), type := 35, pos := "ref.go:91", after := #[], guard := none }) (v := ?_) rfl (by kernel_rfl) (by kernel_rfl) (by kernel_rfl) (by kernel_rfl) (by kernel_rfl) (fun _ _ _ h => h) (Or.inl ⟨rfl, ?_⟩) (by assumption) ?_
              rotate_left
              · (intro w' hSw; replace a0 := kept_cell hSw a0; replace g0 := kept_cell hSw g0; replace y0 := kept_cell hSw y0; replace y1 := kept_cell hSw y1; replace y2 := kept_cell hSw y2; replace y3 := kept_cell hSw y3; go_simp; try with_reducible rfl)
              try simp only [Act.put, List.setIfInBounds_toArray, List.set_cons_zero, List.set_cons_succ]
              refine x_take (i := 2) (oi := { dst := some 65, op := Op.move (Operand.tmp 8), type := 3, pos := "ref.go:91", after := #[], guard := none }) (v := ?_) rfl (by kernel_rfl) (by kernel_rfl) (by kernel_rfl) (by kernel_rfl) (by kernel_rfl) (fun _ _ _ h => h) (Or.inl ⟨rfl, ?_⟩) (by assumption) ?_
              rotate_left
              · (intro w' hSw; replace a0 := kept_cell hSw a0; replace g0 := kept_cell hSw g0; replace y0 := kept_cell hSw y0; replace y1 := kept_cell hSw y1; replace y2 := kept_cell hSw y2; replace y3 := kept_cell hSw y3; go_simp; try with_reducible rfl)
              try simp only [Act.put, List.setIfInBounds_toArray, List.set_cons_zero, List.set_cons_succ]
              refine x_take (i := 3) (oi := { dst := some 66, op := Op.indexAddr 35 (Operand.tmp 64) (Operand.tmp 65), type := 0, pos := "ref.go:91", after := #[{ on := 1, ground := Ground.data }, { on := 2, ground := Ground.data }], guard := none }) (v := ?_) rfl (by kernel_rfl) (by kernel_rfl) (by kernel_rfl) (by kernel_rfl) (by kernel_rfl) (fun _ _ _ h => h) (Or.inl ⟨rfl, ?_⟩) (by assumption) ?_
              rotate_left
              · (intro w' hSw; replace a0 := kept_cell hSw a0; replace g0 := kept_cell hSw g0; replace y0 := kept_cell hSw y0; replace y1 := kept_cell hSw y1; replace y2 := kept_cell hSw y2; replace y3 := kept_cell hSw y3; go_simp; try with_reducible rfl)
              try simp only [Act.put, List.setIfInBounds_toArray, List.set_cons_zero, List.set_cons_succ]
              refine x_take (i := 4) (oi := { dst := some 67, op := Op.fieldAddr 78 (Operand.tmp 66) 0, type := 0, pos := "ref.go:91", after := #[{ on := 3, ground := Ground.data }], guard := none }) (v := ?_) rfl (by kernel_rfl) (by kernel_rfl) (by kernel_rfl) (by kernel_rfl) (by kernel_rfl) (fun _ _ _ h => h) (Or.inl ⟨rfl, ?_⟩) (by assumption) ?_
              rotate_left
              · (intro w' hSw; replace a0 := kept_cell hSw a0; replace g0 := kept_cell hSw g0; replace y0 := kept_cell hSw y0; replace y1 := kept_cell hSw y1; replace y2 := kept_cell hSw y2; replace y3 := kept_cell hSw y3; go_simp; try with_reducible rfl)
              try simp only [Act.put, List.setIfInBounds_toArray, List.set_cons_zero, List.set_cons_succ]
              refine x_take (i := 5) (oi := { dst := some 68, op := Op.load 3 (Operand.tmp 67), type := 3, pos := "ref.go:91", after := #[{ on := 4, ground := Ground.data }], guard := none }) (v := ?_) rfl (by kernel_rfl) (by kernel_rfl) (by kernel_rfl) (by kernel_rfl) (by kernel_rfl) (fun _ _ _ h => h) (Or.inl ⟨rfl, ?_⟩) (by assumption) ?_
              rotate_left
              · (intro w' hSw; replace a0 := kept_cell hSw a0; replace g0 := kept_cell hSw g0; replace y0 := kept_cell hSw y0; replace y1 := kept_cell hSw y1; replace y2 := kept_cell hSw y2; replace y3 := kept_cell hSw y3; go_simp; try with_reducible rfl)
              try simp only [Act.put, List.setIfInBounds_toArray, List.set_cons_zero, List.set_cons_succ]
              refine x_take (i := 6) (oi := { dst := some 69, op := Op.move (Operand.tmp 2), type := 35, pos := "ref.go:91", after := #[], guard := none }) (v := ?_) rfl (by kernel_rfl) (by kernel_rfl) (by kernel_rfl) (by kernel_rfl) (by kernel_rfl) (fun _ _ _ h => h) (Or.inl ⟨rfl, ?_⟩) (by assumption) ?_
              rotate_left
              · (intro w' hSw; replace a0 := kept_cell hSw a0; replace g0 := kept_cell hSw g0; replace y0 := kept_cell hSw y0; replace y1 := kept_cell hSw y1; replace y2 := kept_cell hSw y2; replace y3 := kept_cell hSw y3; go_simp; try with_reducible rfl)
              try simp only [Act.put, List.setIfInBounds_toArray, List.set_cons_zero, List.set_cons_succ]
              refine x_take (i := 7) (oi := { dst := some 70, op := Op.move (Operand.tmp 9), type := 3, pos := "ref.go:91", after := #[], guard := none }) (v := ?_) rfl (by kernel_rfl) (by kernel_rfl) (by kernel_rfl) (by kernel_rfl) (by kernel_rfl) (fun _ _ _ h => h) (Or.inl ⟨rfl, ?_⟩) (by assumption) ?_
              rotate_left
              · (intro w' hSw; replace a0 := kept_cell hSw a0; replace g0 := kept_cell hSw g0; replace y0 := kept_cell hSw y0; replace y1 := kept_cell hSw y1; replace y2 := kept_cell hSw y2; replace y3 := kept_cell hSw y3; go_simp; try with_reducible rfl)
              try simp only [Act.put, List.setIfInBounds_toArray, List.set_cons_zero, List.set_cons_succ]
              refine x_take (i := 8) (oi := { dst := some 71, op := Op.indexAddr 35 (Operand.tmp 69) (Operand.tmp 70), type := 0, pos := "ref.go:91", after := #[{ on := 6, ground := Ground.data }, { on := 7, ground := Ground.data }], guard := none }) (v := ?_) rfl (by kernel_rfl) (by kernel_rfl) (by kernel_rfl) (by kernel_rfl) (by kernel_rfl) (fun _ _ _ h => h) (Or.inl ⟨rfl, ?_⟩) (by assumption) ?_
              rotate_left
              · (intro w' hSw; replace a0 := kept_cell hSw a0; replace g0 := kept_cell hSw g0; replace y0 := kept_cell hSw y0; replace y1 := kept_cell hSw y1; replace y2 := kept_cell hSw y2; replace y3 := kept_cell hSw y3; go_simp; try with_reducible rfl)
              try simp only [Act.put, List.setIfInBounds_toArray, List.set_cons_zero, List.set_cons_succ]
              refine x_take (i := 9) (oi := { dst := some 72, op := Op.fieldAddr 78 (Operand.tmp 71) 0, type := 0, pos := "ref.go:91", after := #[{ on := 8, ground := Ground.data }], guard := none }) (v := ?_) rfl (by kernel_rfl) (by kernel_rfl) (by kernel_rfl) (by kernel_rfl) (by kernel_rfl) (fun _ _ _ h => h) (Or.inl ⟨rfl, ?_⟩) (by assumption) ?_
              rotate_left
              · (intro w' hSw; replace a0 := kept_cell hSw a0; replace g0 := kept_cell hSw g0; replace y0 := kept_cell hSw y0; replace y1 := kept_cell hSw y1; replace y2 := kept_cell hSw y2; replace y3 := kept_cell hSw y3; go_simp; try with_reducible rfl)
              try simp only [Act.put, List.setIfInBounds_toArray, List.set_cons_zero, List.set_cons_succ]
              refine x_take (i := 10) (oi := { dst := some 73, op := Op.load 3 (Operand.tmp 72), type := 3, pos := "ref.go:91", after := #[{ on := 9, ground := Ground.data }], guard := none }) (v := ?_) rfl (by kernel_rfl) (by kernel_rfl) (by kernel_rfl) (by kernel_rfl) (by kernel_rfl) (fun _ _ _ h => h) (Or.inl ⟨rfl, ?_⟩) (by assumption) ?_
              rotate_left
              · (intro w' hSw; replace a0 := kept_cell hSw a0; replace g0 := kept_cell hSw g0; replace y0 := kept_cell hSw y0; replace y1 := kept_cell hSw y1; replace y2 := kept_cell hSw y2; replace y3 := kept_cell hSw y3; go_simp; try with_reducible rfl)
              try simp only [Act.put, List.setIfInBounds_toArray, List.set_cons_zero, List.set_cons_succ]
              refine x_one (i := 11) (o := { dst := some 74, op := Op.call { callee := Callee.value (Operand.func 40), args := #[Operand.tmp 63, Operand.tmp 68, Operand.tmp 73], argTypes := #[45, 3, 3] }, type := 3, pos := "ref.go:91", after := #[{ on := 0, ground := Ground.data }, { on := 5, ground := Ground.data }, { on := 10, ground := Ground.data }], guard := none }) (by kernel_rfl) rfl (fun K hK => ?_)
              (go_simp; go_at_call 40; (with_reducible refine (C53'.out _).mono ?_); rintro e w6 ⟨rfl, kd6⟩; have KK6 := kept_trans hHeld kd6; try dsimp only)
              refine hK.out _ _ ?_ (fun hHeld => ?_)
              · (try dsimp only); repeat (first | assumption | exact kept_refl _ | refine kept_drew ?_ | refine kept_alloc ?_ _ | refine kept_set ?_ (by omega) _)
              clear hK K
              try simp only [Act.put, List.setIfInBounds_toArray, List.set_cons_zero, List.set_cons_succ]
              refine x_take (i := 12) (oi := { dst := some 11, op := Op.assign (Operand.tmp 74), type := 3, pos := "ref.go:91", after := #[{ on := 11, ground := Ground.data }, { on := 11, ground := Ground.chain }, { on := 0, ground := Ground.phase }, { on := 1, ground := Ground.phase }, { on := 2, ground := Ground.phase }, { on := 3, ground := Ground.phase }, { on := 4, ground := Ground.phase }, { on := 5, ground := Ground.phase }, { on := 6, ground := Ground.phase }, { on := 7, ground := Ground.phase }, { on := 8, ground := Ground.phase }, { on := 9, ground := Ground.phase }, { on := 10, ground := Ground.phase }, { on := 11, ground := Ground.phase }], guard := none }) (v := ?_) rfl (by kernel_rfl) (by kernel_rfl) (by kernel_rfl) (by kernel_rfl) (by kernel_rfl) (fun _ _ _ h => h) (Or.inl ⟨rfl, ?_⟩) (by assumption) ?_
              rotate_left
              · (intro w' hSw; replace a0 := kept_cell hSw a0; replace g0 := kept_cell hSw g0; replace y0 := kept_cell hSw y0; replace y1 := kept_cell hSw y1; replace y2 := kept_cell hSw y2; replace y3 := kept_cell hSw y3; go_simp; try with_reducible rfl)
              try simp only [Act.put, List.setIfInBounds_toArray, List.set_cons_zero, List.set_cons_succ]
              refine x_done (by kernel_rfl) ?_ _
              have hrow6 := row_kept hrow4 KK6
              have o36 := o34.kept KK6
              have K06 := kept_trans K04 KK6
              replace a1 := kept_cell KK6 a1
              have ol6 : w.heap.size + 1 ≤ w6.heap.size := by have := KK6.size; omega
              clear hrow4 o34 K04 y0 y1 y2 y3 hHeld a0 g0
              go_wp2_with (at_builtin; go_loud (refine app_law (w.heap.size + 1) rfl (.tmp 77) (.tmp 85) 35 78 (.agg #[.int .i64 0, .slice none 0 0]) 2 32 rfl Tryz.underlying35 info67 rfl (by omega) (by omega) (.slice A7 S.length c7) S.length 1 (teCells S) [.int .i64 sv, .slice E t.e.length ce] rfl rfl rfl (one_te _ _ _ _) hrow6 (by omega) (by omega) ?_; intro v1 w3 h3 hg3 hat3; obtain ⟨A1, c1, rfl⟩ := row_val h3))
              go_roundg ((p.length - (i + 1)) + (r.length - (j + 1)))
              case rel => exact ⟨i + 1, j + 1, A1, c1, S ++ [⟨⟨sv, t.e⟩, E, ce⟩], _, _, by omega, by omega, rfl, by (rw [List.length_append]; rfl), by go_num, by go_num, rfl, rfl, by (rw [teCells_snoc, List.length_append]; exact h3), by (rw [List.length_append]; simp; omega), Lib.hid (by (rw [HM.out, HSTEP.out, if_neg (by omega), if_neg (by omega), if_pos HC3.out, List.map_append, List.append_assoc]; rfl)), Lib.hid (fun y hy => (List.mem_append.1 hy).elim (HX.out y) (fun e => by (obtain rfl := List.mem_singleton.1 e; exact HEE.out))), kept_grown K06 hrow6 (by omega) hg3, o36.grown hg3 (fun e => by (have := own_from hrow6 e.symm; omega))⟩
              case measure => omega
      · have HJ := Lib.hid (show j = r.length by omega)
        have d3 : decide ((j : Int) < (r.length : Int)) = false := decide_eq_false (by omega)
        have d3' : decide (j < r.length) = false := decide_eq_false (by omega)
        have HI1 := Lib.hid (show t :: p.drop (i + 1) = p.drop i by rw [drop_tm hit, ← hq_t])
        clear hE_t hq_t
        go_wp2_with (at_builtin; go_loud (refine app_law (w.heap.size + 1) rfl (.tmp 43) (.tmp 48) 35 78 (.agg #[.int .i64 0, .slice none 0 0]) 2 32 rfl Tryz.underlying35 info67 rfl (by omega) (by omega) (.slice A7 S.length c7) S.length 1 (teCells S) [.int .i64 t.c, .slice E t.e.length ce] rfl rfl rfl (one_te _ _ _ _) hrow (by omega) (by omega) ?_; intro v1 w3 h3 hg3 hat3; obtain ⟨A1, c1, rfl⟩ := row_val h3))
        go_roundg ((p.length - (i + 1)) + (r.length - j))
        case rel => exact ⟨i + 1, j, A1, c1, S ++ [⟨t, E, ce⟩], _, _, by omega, by omega, rfl, by (rw [List.length_append]; rfl), by go_num, by go_num, rfl, rfl, by (rw [teCells_snoc, List.length_append]; exact h3), by (rw [List.length_append]; simp; omega), Lib.hid (by (rw [HM.out, HJ.out, List.drop_length, mg_r, mg_r, List.map_append, List.append_assoc, ← HI1.out]; rfl)), Lib.hid (fun y hy => (List.mem_append.1 hy).elim (HX.out y) (fun e => by (obtain rfl := List.mem_singleton.1 e; exact HEE.out))), kept_grown K0 hrow (by omega) hg3, o3.grown hg3 (fun e => by (have := own_from hrow e.symm; omega))⟩
        case measure => omega
    · have HI := Lib.hid (show i = p.length by omega)
      have d1 : decide ((i : Int) < (p.length : Int)) = false := decide_eq_false (by omega)
      have d1' : decide (i < p.length) = false := decide_eq_false (by omega)
      have d2 : ((i : Int) == (p.length : Int)) = true := int_beq_eq (by omega)
      have d2' : (i == p.length) = true := nat_beq_eq (by omega)
      by_cases hjt : j < r.length
      · have d3 : decide ((j : Int) < (r.length : Int)) = true := decide_eq_true (by omega)
        have d3' : decide (j < r.length) = true := decide_eq_true (by omega)
        obtain ⟨bb, ob, E, ce, rfl, g0, g1, hE_t, hl_t⟩ := HR.out j hjt
        replace g0 := kept_cell K0 g0
        replace g1 := kept_cell K0 g1
        obtain ⟨t, hq_t⟩ : ∃ t, t = tmv r j := ⟨_, rfl⟩
        rw [← hq_t] at g0 g1 hE_t hl_t
        have HQ_t := Lib.hid hq_t
        have HEE := Lib.hid hE_t
        have HJ1 := Lib.hid (show t :: r.drop (j + 1) = r.drop j by rw [drop_tm hjt, ← hq_t])
        clear hE_t hq_t
        go_wp2_with (at_builtin; go_loud (refine app_law (w.heap.size + 1) rfl (.tmp 54) (.tmp 59) 35 78 (.agg #[.int .i64 0, .slice none 0 0]) 2 32 rfl Tryz.underlying35 info67 rfl (by omega) (by omega) (.slice A7 S.length c7) S.length 1 (teCells S) [.int .i64 t.c, .slice E t.e.length ce] rfl rfl rfl (one_te _ _ _ _) hrow (by omega) (by omega) ?_; intro v1 w3 h3 hg3 hat3; obtain ⟨A1, c1, rfl⟩ := row_val h3))
        go_roundg ((p.length - i) + (r.length - (j + 1)))
        case rel => exact ⟨i, j + 1, A1, c1, S ++ [⟨t, E, ce⟩], _, _, by omega, by omega, rfl, by (rw [List.length_append]; rfl), by go_num, by go_num, rfl, rfl, by (rw [teCells_snoc, List.length_append]; exact h3), by (rw [List.length_append]; simp; omega), Lib.hid (by (rw [HM.out, HI.out, List.drop_length, mg_l, mg_l, List.map_append, List.append_assoc, ← HJ1.out]; rfl)), Lib.hid (fun y hy => (List.mem_append.1 hy).elim (HX.out y) (fun e => by (obtain rfl := List.mem_singleton.1 e; exact HEE.out))), kept_grown K0 hrow (by omega) hg3, o3.grown hg3 (fun e => by (have := own_from hrow e.symm; omega))⟩
        case measure => omega
      · have d3 : decide ((j : Int) < (r.length : Int)) = false := decide_eq_false (by omega)
        have d3' : decide (j < r.length) = false := decide_eq_false (by omega)
        have HJ := Lib.hid (show j = r.length by omega)
        clear d2 d2' hit hjt
        go_wp2_with fail
        go_ret
        exact ⟨_, S, rfl, by rw [HM.out, HI.out, HJ.out, List.drop_length, List.drop_length, mg_l, List.append_nil], row_base hrow (by omega), HX.out, K0⟩
end Go.Proofs.YtikfeemmjfoffaaGreatDoor
