/- Polynomials: the law PolyMuls, walked. -/
import Derived.Test.YtnjmpjdampdmmaaDoorC29
set_option linter.unusedVariables false
set_option linter.unusedSimpArgs false
namespace Go.Proofs.YtnjmpjdampdmmaaDoor
open Go.RowKit

/-! ### Few terms -/
def eSum (l : List Tm) : Nat := (l.map fun t => t.e.length).sum
theorem fewT_sum {most : Int} : ∀ (l : List Tm) (n : Int), fewT most n l ≤ most → fewT most n l = n + eSum l
  | [], n, _ => by simp [fewT, eSum]
  | t :: l, n, h => by
    by_cases h1 : n ≤ most
    · rw [fewT, if_pos h1] at h ⊢
      rw [fewT_sum l _ h]
      unfold eSum
      simp only [List.map_cons, List.sum_cons, Int.natCast_add]
      omega
    · rw [fewT_over h1] at h
      exact absurd h h1
theorem eSum_all {n : Nat} : ∀ {l : List Tm}, (∀ t ∈ l, t.e.length = n) → eSum l = l.length * n
  | [], _ => by simp [eSum]
  | t :: l, h => by
    have ih := eSum_all (l := l) (fun x hx => h x (by simp [hx]))
    unfold eSum at ih ⊢
    rw [List.map_cons, List.sum_cons, ih, h t (by simp), List.length_cons, Nat.add_mul]
    omega
theorem few_two {most : Int} {p r : List Tm} (h : fewB most [p, r] = true) : (p.length + eSum p + r.length + eSum r : Int) ≤ most := by
  have h1 := of_decide_eq_true h
  simp only [fewL] at h1
  have h2 := fewT_sum _ _ h1
  have h3 : fewT most (0 + (p.length : Int)) p ≤ most := by omega
  have h4 := fewT_sum _ _ h3
  omega
theorem canon_zero {q : Int} : ∀ {p : List Tm}, Canon q 0 p → p.length ≤ 1
  | [], _ => by simp
  | [t], _ => by simp
  | t :: u :: p, h => by
    have h1 := (List.pairwise_cons.1 h.rise).1 u (by simp)
    have ht : t.e = [] := List.eq_nil_of_length_eq_zero (h.len t (by simp))
    have hu : u.e = [] := List.eq_nil_of_length_eq_zero (h.len u (by simp))
    rw [ht, hu] at h1
    exact absurd h1 (ltL_irrefl _)
theorem few_prod {q : Int} {n : Nat} {p r : List Tm} (h : fewB 400 [p, r] = true) (hp : Canon q n p) (hr : Canon q n r) : p.length * r.length ≤ 20000 := by
  have h1 := few_two h
  rw [eSum_all hp.len, eSum_all hr.len] at h1
  rcases Nat.eq_zero_or_pos n with h0 | h0
  · subst h0
    have a := canon_zero hp
    have b := canon_zero hr
    exact Nat.le_trans (Nat.mul_le_mul a b) (by decide)
  · have a : p.length ≤ p.length * n := Nat.le_mul_of_pos_right _ h0
    have b : r.length ≤ r.length * n := Nat.le_mul_of_pos_right _ h0
    generalize p.length * n = x at *
    generalize r.length * n = y at *
    rcases Nat.lt_or_ge 100 p.length with h2 | h2
    · exact Nat.le_trans (Nat.mul_le_mul (show p.length ≤ 200 by omega) (show r.length ≤ 100 by omega)) (by decide)
    · exact Nat.le_trans (Nat.mul_le_mul h2 (show r.length ≤ 200 by omega)) (by decide)

/-! ### What fits -/
theorem addit_ia {n v : Nat} (h : v < n) : Addit n (fun e => ia e v) := fun a b ha hb => ia_addE (by omega) (by omega)
section
variable {q : Int} {add mul : Int → Int → Int} {neg : Int → Int} {n : Nat}
theorem prd_len {p r : List Tm} : (prd add mul p r).length ≤ p.length * r.length := by
  have := totalT_len add (prodL mul p r).length (prodL mul p r)
  rw [sumLen_prodL] at this
  exact this
theorem fits_yes (F : FldOk q add mul neg) {p r : List Tm} (hp : Canon q n p) (hr : Canon q n r) (hl : p.length * r.length ≤ 20000) (h : noOv p r = true) : fitsB (prd add mul p r) = true := by
  unfold fitsB
  rw [Bool.and_eq_true, List.all_eq_true]
  refine ⟨fun z hz => ?_, decide_eq_true (Nat.le_trans prd_len hl)⟩
  obtain ⟨t, ht, u, hu, e⟩ := prd_mem F hp hr hz
  rw [e]
  exact noOv_iff.1 h t ht u hu
theorem eFit_over {e : List Int} (h : eFit e = false) : ∃ v, v < e.length ∧ 65535 < ia e v := by
  unfold eFit at h
  rw [List.all_eq_false] at h
  obtain ⟨x, hx, h⟩ := h
  obtain ⟨v, hv, rfl⟩ := List.getElem_of_mem hx
  refine ⟨v, hv, ?_⟩
  unfold ia
  rw [List.getD_eq_getElem?_getD, List.getElem?_eq_getElem hv, Option.getD_some]
  simpa using h
theorem fits_no (F : FldOk q add mul neg) {p r : List Tm} (hp : Canon q n p) (hr : Canon q n r) (h : noOv p r = false) : fitsB (prd add mul p r) = false := by
  unfold noOv at h
  rw [List.all_eq_false] at h
  obtain ⟨t, ht, h⟩ := h
  have h' : (r.all fun u => eFit (addE t.e u.e)) = false := by simpa using h
  rw [List.all_eq_false] at h'
  obtain ⟨u, hu, h2⟩ := h'
  have h3 : eFit (addE t.e u.e) = false := by simpa using h2
  obtain ⟨v, hv, hov⟩ := eFit_over h3
  have lt := hp.len t ht
  have lu := hr.len u hu
  rw [addE_len lt lu] at hv
  rw [ia_addE (by omega) (by omega)] at hov
  obtain ⟨a, ha, b, hb, h4, h5, z, hz, e⟩ := lead F (addit_ia hv) hp hr (List.ne_nil_of_mem ht) (List.ne_nil_of_mem hu)
  have h6 := h4 t ht
  have h7 := h5 u hu
  have h8 : eFit z.e = false := by
    rw [e]
    exact eFit_not (hp.len a ha) (hr.len b hb) hv (by omega)
  unfold fitsB
  rw [show ((prd add mul p r).all fun t => eFit t.e) = false from by
    rw [List.all_eq_false]
    exact ⟨z, hz, by simp [h8]⟩]
  rfl
end
theorem rpp_two {w : World} {A B : Option Addr} {c d : Nat} {p r : List Tm} (hP : RP w A p) (hR : RP w B r) (hl : p.length ≤ 140737488355328) (hl2 : r.length ≤ 140737488355328) : RPP (w.alloc (.cells #[.slice A p.length c, .slice B r.length d] 25)) (some ⟨w.heap.size, 0, none⟩) [p, r] := fun j hj => by
  have o := Own.new w 25 [.slice A p.length c, .slice B r.length d]
  have k := kept_alloc (kept_refl w) (.cells #[.slice A p.length c, .slice B r.length d] 25)
  match j, hj with
  | 0, _ => exact ⟨w.heap.size, 0, A, c, rfl, o.cell (j := 0) rfl, hP.kept k, hl⟩
  | 1, _ => exact ⟨w.heap.size, 0, B, d, rfl, o.cell (j := 1) rfl, hR.kept k, hl2⟩
set_option maxRecDepth 100000 in
set_option maxHeartbeats 1000000 in
theorem law6_any (P M n : Int) (p : List Tm) (A : Option Addr) (c : Nat) (r : List Tm) (B : Option Addr) (d : Nat) (z : Int) (w : World) (hp : PowOk w) (hP : RP w A p) (hl : p.length ≤ 140737488355328) (hR : RP w B r) (hl2 : r.length ≤ 140737488355328) :
    Calls Tryd.prog 6 #[fV P M, .int .i64 n, .agg #[.slice A p.length c, .slice B r.length d, .int .i64 z]] w fun e w' => e = .returned (.bool true) ∧ Kept w w' := by
  have K0 := kept_alloc (kept_refl w) (.cells #[.int .i64 P, .int .i64 M] 23)
  have K1 := kept_alloc K0 (.cells #[.slice A p.length c, .slice B r.length d, .int .i64 z] 51)
  have o3 := (Own.new w 23 [.int .i64 P, .int .i64 M]).alloc (.cells #[.slice A p.length c, .slice B r.length d, .int .i64 z] 51)
  have o5 := Own.new (w.alloc (.cells #[.int .i64 P, .int .i64 M] 23)) 51 [.slice A p.length c, .slice B r.length d, .int .i64 z]
  obtain ⟨w0, hw0⟩ : ∃ w0, w0 = (w.alloc (.cells #[.int .i64 P, .int .i64 M] 23)).alloc (.cells #[.slice A p.length c, .slice B r.length d, .int .i64 z] 51) := ⟨_, rfl⟩
  have hz0 : (w.alloc (.cells #[.int .i64 P, .int .i64 M] 23)).heap.size = w.heap.size + 1 := by simp
  rw [hz0] at o5
  have o5' : Own w0 (w.heap.size + 1) 51 [.slice A p.length c, .slice B r.length d, .int .i64 z] := by rw [hw0]; exact o5
  rw [← hw0] at K1 o3
  have HW0 := Lib.hid hw0
  have C12 := Lib.hid (few12_any 400 [p, r] (some ⟨w0.heap.size, 0, none⟩) 2 (w0.alloc (.cells #[.slice A p.length c, .slice B r.length d] 25)) (by decide) (by decide) (rpp_two (hP.kept K1) (hR.kept K1) hl hl2) (by simp))
  rw [show ([p, r] : List (List Tm)).length = 2 from rfl] at C12
  have C13 := Lib.hid fun w' (k : Kept w w') => alive13_any w' (hp.kept k)
  have C15p := Lib.hid fun w' (k : Kept w w') => rvalid15_all P M n p A c w' (hP.kept k) hl
  have C15r := Lib.hid fun w' (k : Kept w w') => rvalid15_all P M n r B d w' (hR.kept k) hl2
  have K2 := kept_alloc K1 (.cells #[.slice A p.length c, .slice B r.length d] 25)
  have o3' := o3.alloc (.cells #[.slice A p.length c, .slice B r.length d] 25)
  have o5'' := o5'.alloc (.cells #[.slice A p.length c, .slice B r.length d] 25)
  clear o5 hz0 hw0
  cases hf : fewB 400 [p, r] with
  | false =>
    rw [hf] at C12
    unfold fV
    clear hP hf hp hR
    go_enter Tryd.func6, Tryd.ntmps6
    go_upto_region 1 with fail
    rw [← HW0.out]
    have x0 := o5'.cell (j := 0) rfl; have x1 := o5'.cell (j := 1) rfl
    go_wp2_with (first
      | (go_at_call 12; ((with_reducible refine C12.out.mono ?_); rintro e w1 ⟨rfl, rfl⟩))
      | (go_at_call 13; ((with_reducible refine (C13.out _ K2).mono ?_); rintro e w2 ⟨rfl, k2⟩)))
    go_ret
    exact ⟨rfl, kept_trans K2 k2⟩
  | true =>
    rw [hf] at C12
    by_cases hvv : vld (ordF P M) n p = true ∧ vld (ordF P M) n r = true
    · obtain ⟨hv, hv2⟩ := hvv
      have cp := vld_canon hv
      have cr := vld_canon hv2
      have ok := vld_ok hv
      obtain ⟨hn, hlp, tp⟩ := vld_terms hv
      obtain ⟨_, hlr, tr⟩ := vld_terms hv2
      have hpr := few_prod hf cp cr
      have hprd : prT P M p r = prd (addF P M) (mulF P M) p r := prd_single (fldF ok) cp cr
      have C30 := Lib.hid fun w' (k : Kept w w') => rmul30_any P M n.toNat p r A B c d w' ok (hP.kept k) (hR.kept k) (by omega) tp tr hlp hlr hpr cp cr
      have C18 := Lib.hid fun w' => of18_any P M w' ok
      obtain ⟨T, hT⟩ : ∃ T, T = prT P M p r := ⟨_, rfl⟩
      have hT2 : tot (addF P M) (prodL (mulF P M) p r) = T := by rw [hT, hprd]; rfl
      have hTl : T.length ≤ 20000 := by rw [hT, hprd]; exact Nat.le_trans prd_len hpr
      have HT2 := Lib.hid hT2
      have C31 := Lib.hid fun w' A' c' h => fits31_any T A' c' w' h (by omega)
      obtain ⟨kv, hkv⟩ : ∃ kv, kv = kV P M := ⟨_, rfl⟩
      rw [← hkv] at C18 C30
      rw [hv] at C15p
      rw [hv2] at C15r
      cases hno : noOv p r with
      | true =>
        have hft : fitsB T = true := by rw [hT, hprd]; exact fits_yes (fldF ok) cp cr hpr hno
        rw [hft] at C31
        have C29 := Lib.hid fun w' (k : Kept w w') => mul29_yes P M n p r A B c d w' (hP.kept k) (hR.kept k) hv hv2 hpr hno
        have C16 := Lib.hid fun w' A B c d h1 h2 => is16_ok T T A B c d w' h1 h2 (by omega) (by omega)
        rw [show decide (T = T) = true by simp] at C16
        unfold MulYes at C29
        rw [← hT] at C29
        unfold fV at *
        clear hP hf hp hR hv hv2 cp cr ok tp tr hprd hT hT2 hkv hno hft
        go_enter Tryd.func6, Tryd.ntmps6
        go_upto_region 1 with fail
        rw [← HW0.out]
        have x0 := o5'.cell (j := 0) rfl; have x1 := o5'.cell (j := 1) rfl
        go_wp2_with (first
          | (go_at_call 12; ((with_reducible refine C12.out.mono ?_); rintro e w1 ⟨rfl, rfl⟩; have y0 := o3'.cell (j := 0) rfl; have y1 := o3'.cell (j := 1) rfl; have v0 := o5''.cell (j := 0) rfl; have v1 := o5''.cell (j := 1) rfl))
          | (go_at_call 29; ((with_reducible refine (C29.out _ K2).mono ?_); rintro e w2 ⟨A2, c2, out, rfl, hr, hrp, k2⟩; replace K2 := kept_trans K2 k2; replace y0 := kept_cell k2 y0; replace y1 := kept_cell k2 y1; replace v0 := kept_cell k2 v0; replace v1 := kept_cell k2 v1; subst hr))
          | (go_at_call 15; ((with_reducible refine (C15p.out _ K2).mono ?_); rintro e w3 ⟨rfl, k3⟩; have D15 := Lib.hid (C15r.out _ (kept_trans K2 k3)); replace K2 := kept_trans K2 k3; replace y0 := kept_cell k3 y0; replace y1 := kept_cell k3 y1; replace v0 := kept_cell k3 v0; replace v1 := kept_cell k3 v1; replace hrp := hrp.kept k3))
          | (go_at_call 15; ((with_reducible refine D15.out.mono ?_); rintro e w4 ⟨rfl, k4⟩; replace K2 := kept_trans K2 k4; replace y0 := kept_cell k4 y0; replace y1 := kept_cell k4 y1; replace v0 := kept_cell k4 v0; replace v1 := kept_cell k4 v1; replace hrp := hrp.kept k4)))
        refine region_x (fun w' => Kept w4 w') [] (by kernel_rfl) (kept_drew (kept_refl _)) (fun hHeld => ?_)
        refine x_take (i := 0) (oi := { dst := some 48, op := Op.load 23 (Operand.tmp 3), type := 23, pos := "law.go:101", after := #[], guard := none }) (v := ?_) rfl (by kernel_rfl) (by kernel_rfl) (by kernel_rfl) (by kernel_rfl) (by kernel_rfl) (fun _ _ _ h => h) (Or.inl ⟨rfl, ?_⟩) (by assumption) ?_
        rotate_left
        · (intro w' hSw; replace y0 := kept_cell hSw y0; replace y1 := kept_cell hSw y1; replace v0 := kept_cell hSw v0; replace v1 := kept_cell hSw v1; go_simp; try with_reducible rfl)
        try simp only [Act.put, List.setIfInBounds_toArray, List.set_cons_zero, List.set_cons_succ]
        refine x_take (i := 2) (oi := { dst := some 50, op := Op.fieldAddr 51 (Operand.tmp 5) 0, type := 0, pos := "law.go:101", after := #[], guard := none }) (v := ?_) rfl (by kernel_rfl) (by kernel_rfl) (by kernel_rfl) (by kernel_rfl) (by kernel_rfl) (fun _ _ _ h => h) (Or.inl ⟨rfl, ?_⟩) (by assumption) ?_
        rotate_left
        · (intro w' hSw; replace y0 := kept_cell hSw y0; replace y1 := kept_cell hSw y1; replace v0 := kept_cell hSw v0; replace v1 := kept_cell hSw v1; go_simp; try with_reducible rfl)
        try simp only [Act.put, List.setIfInBounds_toArray, List.set_cons_zero, List.set_cons_succ]
        refine x_take (i := 3) (oi := { dst := some 51, op := Op.load 25 (Operand.tmp 50), type := 25, pos := "law.go:101", after := #[{ on := 2, ground := Ground.data }], guard := none }) (v := ?_) rfl (by kernel_rfl) (by kernel_rfl) (by kernel_rfl) (by kernel_rfl) (by kernel_rfl) (fun _ _ _ h => h) (Or.inl ⟨rfl, ?_⟩) (by assumption) ?_
        rotate_left
        · (intro w' hSw; replace y0 := kept_cell hSw y0; replace y1 := kept_cell hSw y1; replace v0 := kept_cell hSw v0; replace v1 := kept_cell hSw v1; go_simp; try with_reducible rfl)
        try simp only [Act.put, List.setIfInBounds_toArray, List.set_cons_zero, List.set_cons_succ]
        refine x_take (i := 4) (oi := { dst := some 52, op := Op.fieldAddr 51 (Operand.tmp 5) 1, type := 0, pos := "law.go:101", after := #[], guard := none }) (v := ?_) rfl (by kernel_rfl) (by kernel_rfl) (by kernel_rfl) (by kernel_rfl) (by kernel_rfl) (fun _ _ _ h => h) (Or.inl ⟨rfl, ?_⟩) (by assumption) ?_
        rotate_left
        · (intro w' hSw; replace y0 := kept_cell hSw y0; replace y1 := kept_cell hSw y1; replace v0 := kept_cell hSw v0; replace v1 := kept_cell hSw v1; go_simp; try with_reducible rfl)
        try simp only [Act.put, List.setIfInBounds_toArray, List.set_cons_zero, List.set_cons_succ]
        refine x_take (i := 5) (oi := { dst := some 53, op := Op.load 25 (Operand.tmp 52), type := 25, pos := "law.go:101", after := #[{ on := 4, ground := Ground.data }], guard := none }) (v := ?_) rfl (by kernel_rfl) (by kernel_rfl) (by kernel_rfl) (by kernel_rfl) (by kernel_rfl) (fun _ _ _ h => h) (Or.inl ⟨rfl, ?_⟩) (by assumption) ?_
        rotate_left
        · (intro w' hSw; replace y0 := kept_cell hSw y0; replace y1 := kept_cell hSw y1; replace v0 := kept_cell hSw v0; replace v1 := kept_cell hSw v1; go_simp; try with_reducible rfl)
        try simp only [Act.put, List.setIfInBounds_toArray, List.set_cons_zero, List.set_cons_succ]
        refine x_one (i := 1) (o := { dst := some 49, op := Op.call { callee := Callee.value (Operand.func 18), args := #[Operand.tmp 48], argTypes := #[23] }, type := 35, pos := "law.go:101", after := #[{ on := 0, ground := Ground.data }], guard := none }) (by kernel_rfl) rfl (fun K hK => ?_)
        (go_simp; go_at_call 18; (with_reducible refine (C18.out _).mono ?_); rintro e w5 ⟨rfl, k5⟩; have G5 := kept_trans hHeld k5; try dsimp only)
        refine hK.out _ _ ?_ (fun hHeld => ?_)
        · (try dsimp only); repeat (first | assumption | exact kept_refl _ | refine kept_drew ?_ | refine kept_alloc ?_ _ | refine kept_set ?_ (by omega) _)
        clear hK K
        try simp only [Act.put, List.setIfInBounds_toArray, List.set_cons_zero, List.set_cons_succ]
        refine x_one (i := 6) (o := { dst := some 54, op := Op.call { callee := Callee.value (Operand.func 30), args := #[Operand.tmp 49, Operand.tmp 51, Operand.tmp 53], argTypes := #[35, 25, 25] }, type := 25, pos := "law.go:101", after := #[{ on := 1, ground := Ground.data }, { on := 3, ground := Ground.data }, { on := 5, ground := Ground.data }, { on := 1, ground := Ground.chain }], guard := none }) (by kernel_rfl) rfl (fun K hK => ?_)
        (go_simp; go_at_call 30; (with_reducible refine (C30.out _ (kept_trans K2 hHeld)).mono ?_); rintro e w6 ⟨A6, c6, o6, rfl, ho, hop, k6⟩; have G6 := kept_trans hHeld k6; rw [HT2.out] at ho; subst ho; try dsimp only)
        refine hK.out _ _ ?_ (fun hHeld => ?_)
        · (try dsimp only); repeat (first | assumption | exact kept_refl _ | refine kept_drew ?_ | refine kept_alloc ?_ _ | refine kept_set ?_ (by omega) _)
        clear hK K
        try simp only [Act.put, List.setIfInBounds_toArray, List.set_cons_zero, List.set_cons_succ]
        refine x_take (i := 7) (oi := { dst := some 9, op := Op.assign (Operand.tmp 54), type := 25, pos := "law.go:101", after := #[{ on := 6, ground := Ground.data }, { on := 6, ground := Ground.chain }, { on := 0, ground := Ground.phase }, { on := 1, ground := Ground.phase }, { on := 2, ground := Ground.phase }, { on := 3, ground := Ground.phase }, { on := 4, ground := Ground.phase }, { on := 5, ground := Ground.phase }, { on := 6, ground := Ground.phase }], guard := none }) (v := ?_) rfl (by kernel_rfl) (by kernel_rfl) (by kernel_rfl) (by kernel_rfl) (by kernel_rfl) (fun _ _ _ h => h) (Or.inl ⟨rfl, ?_⟩) (by assumption) ?_
        rotate_left
        · (intro w' hSw; replace y0 := kept_cell hSw y0; replace y1 := kept_cell hSw y1; replace v0 := kept_cell hSw v0; replace v1 := kept_cell hSw v1; go_simp; try with_reducible rfl)
        try simp only [Act.put, List.setIfInBounds_toArray, List.set_cons_zero, List.set_cons_succ]
        refine x_done (by kernel_rfl) ?_ _
        replace hrp := hrp.kept G6
        replace K2 := kept_trans K2 G6
        go_wp2_with (first
          | (go_at_call 31; ((with_reducible refine (C31.out _ _ _ hop).mono ?_); rintro e w7 ⟨rfl, k7⟩; replace hrp := hrp.kept k7; replace hop := hop.kept k7; replace K2 := kept_trans K2 k7))
          | (go_at_call 16; ((with_reducible refine (C16.out _ _ _ _ _ hrp hop).mono ?_); rintro e w8 ⟨rfl, k8⟩; replace K2 := kept_trans K2 k8))
          | (go_at_call 13; ((with_reducible refine (C13.out _ K2).mono ?_); rintro e w9 ⟨rfl, k9⟩; replace K2 := kept_trans K2 k9)))
        go_ret
        exact ⟨rfl, K2⟩
      | false =>
        have hft : fitsB T = false := by rw [hT, hprd]; exact fits_no (fldF ok) cp cr hno
        rw [hft] at C31
        have C29 := Lib.hid fun w' (k : Kept w w') => mul29_no P M n p r A B c d w' (hP.kept k) (hR.kept k) hv hv2 hpr hno
        have C16 := Lib.hid fun w' => is16_err 5 none none 0 0 0 w' (by decide)
        unfold MulNo at C29
        unfold fV at *
        clear hP hf hp hR hv hv2 cp cr ok tp tr hprd hT hT2 hkv hno hft
        go_enter Tryd.func6, Tryd.ntmps6
        go_upto_region 1 with fail
        rw [← HW0.out]
        have x0 := o5'.cell (j := 0) rfl; have x1 := o5'.cell (j := 1) rfl
        go_wp2_with (first
          | (go_at_call 12; ((with_reducible refine C12.out.mono ?_); rintro e w1 ⟨rfl, rfl⟩; have y0 := o3'.cell (j := 0) rfl; have y1 := o3'.cell (j := 1) rfl; have v0 := o5''.cell (j := 0) rfl; have v1 := o5''.cell (j := 1) rfl))
          | (go_at_call 29; ((with_reducible refine (C29.out _ K2).mono ?_); rintro e w2 ⟨rfl, k2⟩; replace K2 := kept_trans K2 k2; replace y0 := kept_cell k2 y0; replace y1 := kept_cell k2 y1; replace v0 := kept_cell k2 v0; replace v1 := kept_cell k2 v1))
          | (go_at_call 15; ((with_reducible refine (C15p.out _ K2).mono ?_); rintro e w3 ⟨rfl, k3⟩; have D15 := Lib.hid (C15r.out _ (kept_trans K2 k3)); replace K2 := kept_trans K2 k3; replace y0 := kept_cell k3 y0; replace y1 := kept_cell k3 y1; replace v0 := kept_cell k3 v0; replace v1 := kept_cell k3 v1))
          | (go_at_call 15; ((with_reducible refine D15.out.mono ?_); rintro e w4 ⟨rfl, k4⟩; replace K2 := kept_trans K2 k4; replace y0 := kept_cell k4 y0; replace y1 := kept_cell k4 y1; replace v0 := kept_cell k4 v0; replace v1 := kept_cell k4 v1)))
        refine region_x (fun w' => Kept w4 w') [] (by kernel_rfl) (kept_drew (kept_refl _)) (fun hHeld => ?_)
        refine x_take (i := 0) (oi := { dst := some 48, op := Op.load 23 (Operand.tmp 3), type := 23, pos := "law.go:101", after := #[], guard := none }) (v := ?_) rfl (by kernel_rfl) (by kernel_rfl) (by kernel_rfl) (by kernel_rfl) (by kernel_rfl) (fun _ _ _ h => h) (Or.inl ⟨rfl, ?_⟩) (by assumption) ?_
        rotate_left
        · (intro w' hSw; replace y0 := kept_cell hSw y0; replace y1 := kept_cell hSw y1; replace v0 := kept_cell hSw v0; replace v1 := kept_cell hSw v1; go_simp; try with_reducible rfl)
        try simp only [Act.put, List.setIfInBounds_toArray, List.set_cons_zero, List.set_cons_succ]
        refine x_take (i := 2) (oi := { dst := some 50, op := Op.fieldAddr 51 (Operand.tmp 5) 0, type := 0, pos := "law.go:101", after := #[], guard := none }) (v := ?_) rfl (by kernel_rfl) (by kernel_rfl) (by kernel_rfl) (by kernel_rfl) (by kernel_rfl) (fun _ _ _ h => h) (Or.inl ⟨rfl, ?_⟩) (by assumption) ?_
        rotate_left
        · (intro w' hSw; replace y0 := kept_cell hSw y0; replace y1 := kept_cell hSw y1; replace v0 := kept_cell hSw v0; replace v1 := kept_cell hSw v1; go_simp; try with_reducible rfl)
        try simp only [Act.put, List.setIfInBounds_toArray, List.set_cons_zero, List.set_cons_succ]
        refine x_take (i := 3) (oi := { dst := some 51, op := Op.load 25 (Operand.tmp 50), type := 25, pos := "law.go:101", after := #[{ on := 2, ground := Ground.data }], guard := none }) (v := ?_) rfl (by kernel_rfl) (by kernel_rfl) (by kernel_rfl) (by kernel_rfl) (by kernel_rfl) (fun _ _ _ h => h) (Or.inl ⟨rfl, ?_⟩) (by assumption) ?_
        rotate_left
        · (intro w' hSw; replace y0 := kept_cell hSw y0; replace y1 := kept_cell hSw y1; replace v0 := kept_cell hSw v0; replace v1 := kept_cell hSw v1; go_simp; try with_reducible rfl)
        try simp only [Act.put, List.setIfInBounds_toArray, List.set_cons_zero, List.set_cons_succ]
        refine x_take (i := 4) (oi := { dst := some 52, op := Op.fieldAddr 51 (Operand.tmp 5) 1, type := 0, pos := "law.go:101", after := #[], guard := none }) (v := ?_) rfl (by kernel_rfl) (by kernel_rfl) (by kernel_rfl) (by kernel_rfl) (by kernel_rfl) (fun _ _ _ h => h) (Or.inl ⟨rfl, ?_⟩) (by assumption) ?_
        rotate_left
        · (intro w' hSw; replace y0 := kept_cell hSw y0; replace y1 := kept_cell hSw y1; replace v0 := kept_cell hSw v0; replace v1 := kept_cell hSw v1; go_simp; try with_reducible rfl)
        try simp only [Act.put, List.setIfInBounds_toArray, List.set_cons_zero, List.set_cons_succ]
        refine x_take (i := 5) (oi := { dst := some 53, op := Op.load 25 (Operand.tmp 52), type := 25, pos := "law.go:101", after := #[{ on := 4, ground := Ground.data }], guard := none }) (v := ?_) rfl (by kernel_rfl) (by kernel_rfl) (by kernel_rfl) (by kernel_rfl) (by kernel_rfl) (fun _ _ _ h => h) (Or.inl ⟨rfl, ?_⟩) (by assumption) ?_
        rotate_left
        · (intro w' hSw; replace y0 := kept_cell hSw y0; replace y1 := kept_cell hSw y1; replace v0 := kept_cell hSw v0; replace v1 := kept_cell hSw v1; go_simp; try with_reducible rfl)
        try simp only [Act.put, List.setIfInBounds_toArray, List.set_cons_zero, List.set_cons_succ]
        refine x_one (i := 1) (o := { dst := some 49, op := Op.call { callee := Callee.value (Operand.func 18), args := #[Operand.tmp 48], argTypes := #[23] }, type := 35, pos := "law.go:101", after := #[{ on := 0, ground := Ground.data }], guard := none }) (by kernel_rfl) rfl (fun K hK => ?_)
        (go_simp; go_at_call 18; (with_reducible refine (C18.out _).mono ?_); rintro e w5 ⟨rfl, k5⟩; have G5 := kept_trans hHeld k5; try dsimp only)
        refine hK.out _ _ ?_ (fun hHeld => ?_)
        · (try dsimp only); repeat (first | assumption | exact kept_refl _ | refine kept_drew ?_ | refine kept_alloc ?_ _ | refine kept_set ?_ (by omega) _)
        clear hK K
        try simp only [Act.put, List.setIfInBounds_toArray, List.set_cons_zero, List.set_cons_succ]
        refine x_one (i := 6) (o := { dst := some 54, op := Op.call { callee := Callee.value (Operand.func 30), args := #[Operand.tmp 49, Operand.tmp 51, Operand.tmp 53], argTypes := #[35, 25, 25] }, type := 25, pos := "law.go:101", after := #[{ on := 1, ground := Ground.data }, { on := 3, ground := Ground.data }, { on := 5, ground := Ground.data }, { on := 1, ground := Ground.chain }], guard := none }) (by kernel_rfl) rfl (fun K hK => ?_)
        (go_simp; go_at_call 30; (with_reducible refine (C30.out _ (kept_trans K2 hHeld)).mono ?_); rintro e w6 ⟨A6, c6, o6, rfl, ho, hop, k6⟩; have G6 := kept_trans hHeld k6; rw [HT2.out] at ho; subst ho; try dsimp only)
        refine hK.out _ _ ?_ (fun hHeld => ?_)
        · (try dsimp only); repeat (first | assumption | exact kept_refl _ | refine kept_drew ?_ | refine kept_alloc ?_ _ | refine kept_set ?_ (by omega) _)
        clear hK K
        try simp only [Act.put, List.setIfInBounds_toArray, List.set_cons_zero, List.set_cons_succ]
        refine x_take (i := 7) (oi := { dst := some 9, op := Op.assign (Operand.tmp 54), type := 25, pos := "law.go:101", after := #[{ on := 6, ground := Ground.data }, { on := 6, ground := Ground.chain }, { on := 0, ground := Ground.phase }, { on := 1, ground := Ground.phase }, { on := 2, ground := Ground.phase }, { on := 3, ground := Ground.phase }, { on := 4, ground := Ground.phase }, { on := 5, ground := Ground.phase }, { on := 6, ground := Ground.phase }], guard := none }) (v := ?_) rfl (by kernel_rfl) (by kernel_rfl) (by kernel_rfl) (by kernel_rfl) (by kernel_rfl) (fun _ _ _ h => h) (Or.inl ⟨rfl, ?_⟩) (by assumption) ?_
        rotate_left
        · (intro w' hSw; replace y0 := kept_cell hSw y0; replace y1 := kept_cell hSw y1; replace v0 := kept_cell hSw v0; replace v1 := kept_cell hSw v1; go_simp; try with_reducible rfl)
        try simp only [Act.put, List.setIfInBounds_toArray, List.set_cons_zero, List.set_cons_succ]
        refine x_done (by kernel_rfl) ?_ _
        replace K2 := kept_trans K2 G6
        go_wp2_with (first
          | (go_at_call 31; ((with_reducible refine (C31.out _ _ _ hop).mono ?_); rintro e w7 ⟨rfl, k7⟩; replace K2 := kept_trans K2 k7))
          | (go_at_call 16; ((with_reducible refine (C16.out _).mono ?_); rintro e w8 ⟨rfl, k8⟩; replace K2 := kept_trans K2 k8))
          | (go_at_call 13; ((with_reducible refine (C13.out _ K2).mono ?_); rintro e w9 ⟨rfl, k9⟩; replace K2 := kept_trans K2 k9)))
        go_ret
        exact ⟨rfl, K2⟩
    · have hor : vld (ordF P M) n p = false ∨ vld (ordF P M) n r = false := by
        cases h1 : vld (ordF P M) n p with
        | false => exact .inl rfl
        | true => cases h2 : vld (ordF P M) n r with
          | false => exact .inr rfl
          | true => exact absurd ⟨h1, h2⟩ hvv
      have C29 := Lib.hid fun w' (k : Kept w w') => mul29_bad P M n p r A B c d w' (hP.kept k) (hR.kept k) hl hl2 hor
      have C16 := Lib.hid fun w' => is16_err 1 none none 0 0 0 w' (by decide)
      cases hv : vld (ordF P M) n p with
      | false =>
        rw [hv] at C15p
        unfold fV at *
        clear hP hf hp hR hv hvv hor C15r
        go_enter Tryd.func6, Tryd.ntmps6
        go_upto_region 1 with fail
        rw [← HW0.out]
        have x0 := o5'.cell (j := 0) rfl; have x1 := o5'.cell (j := 1) rfl
        go_wp2_with (first
          | (go_at_call 12; ((with_reducible refine C12.out.mono ?_); rintro e w1 ⟨rfl, rfl⟩; have y0 := o3'.cell (j := 0) rfl; have y1 := o3'.cell (j := 1) rfl; have v0 := o5''.cell (j := 0) rfl; have v1 := o5''.cell (j := 1) rfl))
          | (go_at_call 29; ((with_reducible refine (C29.out _ K2).mono ?_); rintro e w2 ⟨rfl, k2⟩; replace K2 := kept_trans K2 k2; replace y0 := kept_cell k2 y0; replace y1 := kept_cell k2 y1; replace v0 := kept_cell k2 v0; replace v1 := kept_cell k2 v1))
          | (go_at_call 15; ((with_reducible refine (C15p.out _ K2).mono ?_); rintro e w3 ⟨rfl, k3⟩; replace K2 := kept_trans K2 k3))
          | (go_at_call 16; ((with_reducible refine (C16.out _).mono ?_); rintro e w8 ⟨rfl, k8⟩; replace K2 := kept_trans K2 k8))
          | (go_at_call 13; ((with_reducible refine (C13.out _ K2).mono ?_); rintro e w9 ⟨rfl, k9⟩; replace K2 := kept_trans K2 k9)))
        go_ret
        exact ⟨rfl, K2⟩
      | true =>
        have hv2 : vld (ordF P M) n r = false := by rcases hor with h | h; rw [hv] at h; cases h; exact h
        rw [hv] at C15p
        rw [hv2] at C15r
        unfold fV at *
        clear hP hf hp hR hv hv2 hvv hor
        go_enter Tryd.func6, Tryd.ntmps6
        go_upto_region 1 with fail
        rw [← HW0.out]
        have x0 := o5'.cell (j := 0) rfl; have x1 := o5'.cell (j := 1) rfl
        go_wp2_with (first
          | (go_at_call 12; ((with_reducible refine C12.out.mono ?_); rintro e w1 ⟨rfl, rfl⟩; have y0 := o3'.cell (j := 0) rfl; have y1 := o3'.cell (j := 1) rfl; have v0 := o5''.cell (j := 0) rfl; have v1 := o5''.cell (j := 1) rfl))
          | (go_at_call 29; ((with_reducible refine (C29.out _ K2).mono ?_); rintro e w2 ⟨rfl, k2⟩; replace K2 := kept_trans K2 k2; replace y0 := kept_cell k2 y0; replace y1 := kept_cell k2 y1; replace v0 := kept_cell k2 v0; replace v1 := kept_cell k2 v1))
          | (go_at_call 15; ((with_reducible refine (C15p.out _ K2).mono ?_); rintro e w3 ⟨rfl, k3⟩; have D15 := Lib.hid (C15r.out _ (kept_trans K2 k3)); replace K2 := kept_trans K2 k3; replace y0 := kept_cell k3 y0; replace y1 := kept_cell k3 y1; replace v0 := kept_cell k3 v0; replace v1 := kept_cell k3 v1))
          | (go_at_call 15; ((with_reducible refine D15.out.mono ?_); rintro e w4 ⟨rfl, k4⟩; replace K2 := kept_trans K2 k4))
          | (go_at_call 16; ((with_reducible refine (C16.out _).mono ?_); rintro e w8 ⟨rfl, k8⟩; replace K2 := kept_trans K2 k8))
          | (go_at_call 13; ((with_reducible refine (C13.out _ K2).mono ?_); rintro e w9 ⟨rfl, k9⟩; replace K2 := kept_trans K2 k9)))
        go_ret
        exact ⟨rfl, K2⟩
end Go.Proofs.YtnjmpjdampdmmaaDoor
