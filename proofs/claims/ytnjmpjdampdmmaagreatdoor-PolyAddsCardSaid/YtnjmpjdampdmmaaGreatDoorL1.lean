/- Polynomials: the law PolyAdds, walked. (printed by genL1.py) -/
import Derived.Test.YtnjmpjdampdmmaaGreatDoorM2
import Derived.Test.YtnjmpjdampdmmaaGreatDoorA5
import Derived.Test.YtnjmpjdampdmmaaGreatDoorL6
import Derived.Test.YtnjmpjdampdmmaaGreatDoorL3
import Derived.Test.YtnjmpjdampdmmaaGreatDoorC22
set_option linter.unusedVariables false
set_option linter.unusedSimpArgs false
namespace Go.Proofs.YtnjmpjdampdmmaaGreatDoor
open Go.RowKit

theorem sc_rs {P M n x : Int} {p : List Tm} (hv : vld (ordF P M) n p = true) (hx : inF P M x) : rsT P M x p = scT P M x p := by
  have F := fldF (vld_ok hv)
  have ht := vld_tms hv
  unfold rsT scT
  split
  · rename_i h
    subst h
    symm
    rw [List.filter_eq_nil_iff]
    intro t h
    obtain ⟨u, hu, rfl⟩ := List.mem_map.1 h
    have h1 := ht.mem hu
    have h2 := F.mzero u.c (by omega) h1.2.2.1
    simp [h2]
  · rename_i h
    symm
    rw [List.filter_eq_self]
    intro t h'
    obtain ⟨u, hu, rfl⟩ := List.mem_map.1 h'
    have h1 := ht.mem hu
    have h2 := F.mrange x u.c hx.1 hx.2 (by omega) h1.2.2.1
    have h3 : mulF P M x u.c ≠ 0 := fun e => by
      rcases F.nz x u.c hx.1 hx.2 (by omega) h1.2.2.1 e with h4 | h4
      · exact h h4
      · omega
    simp only [decide_eq_true_eq]
    omega
theorem ad_mg {P M n : Int} {p r : List Tm} (hv : vld (ordF P M) n p = true) (hv2 : vld (ordF P M) n r = true) : mg (addF P M) p r = adT P M p r := by
  have F := fldF (vld_ok hv)
  have cp := vld_canon hv
  have cr := vld_canon hv2
  obtain ⟨h1, h2, _⟩ := mergeT_spec F.toAddOk (p.length + r.length) (Nat.le_refl _) cp cr
  obtain ⟨h3, h4⟩ := adG_spec F cp cr
  exact canon_ext F.toAddOk h1 h3 (fun e _ => (h2 e).trans (h4 e).symm)
theorem adT_len {P M : Int} {p r : List Tm} : (adT P M p r).length ≤ p.length + r.length := by
  have h5 := totalT_len (addF P M) (p ++ r).length ((p ++ r).map fun t => [t])
  have h6 : sumLen ((p ++ r).map fun t => [t]) = (p ++ r).length := by
    have := sumLen_one id (p ++ r)
    rwa [List.map_id] at this
  rw [h6, List.length_append] at h5
  unfold adT
  rw [List.length_append]
  exact h5
theorem radd15_row (P M n : Int) (p r : List Tm) (A B : Option Addr) (ca cb : Nat) (w : World) (hP : RP w A p) (hR : RP w B r) (hv : vld (ordF P M) n p = true) (hv2 : vld (ordF P M) n r = true) :
    Calls Tryz.prog 15 #[kV P M, .slice A p.length ca, .slice B r.length cb] w (RowPost (adT P M p r) w) := by
  obtain ⟨hn, hl, _⟩ := vld_terms hv
  obtain ⟨_, hl2, _⟩ := vld_terms hv2
  have cp := vld_canon hv
  have tp := vld_tms hv
  have tr := vld_tms hv2
  have F := fldF (vld_ok hv)
  obtain ⟨h1, _, _⟩ := mergeT_spec F.toAddOk (p.length + r.length) (Nat.le_refl _) cp (vld_canon hv2)
  refine (radd81_any P M p r A B ca cb w (vld_ok hv) hP hR hl hl2 (fun t ht => ?_) (fun t ht => ?_) (fun t ht u hu => ?_)).mono fun e w' ⟨v, S, he, hS, hrow, hx, k⟩ => ?_
  · have := tp.mem ht
    exact ⟨⟨by omega, this.2.2.1⟩, by omega⟩
  · have := tr.mem ht
    exact ⟨⟨by omega, this.2.2.1⟩, by omega⟩
  · rw [(tp.mem ht).1, (tr.mem hu).1]
  · obtain ⟨A', c', rfl⟩ := row_val hrow
    rw [ad_mg hv hv2] at hS
    refine ⟨A', c', by rw [he, ← hS, List.length_map], ?_, k⟩
    rw [← hS]
    refine rp_of_row hrow (fun x hm => (hx x hm).kept k) (fun z hz => ?_)
    have h5 := h1.len z.t (by
      show z.t ∈ mg (addF P M) p r
      rw [ad_mg hv hv2, ← hS]
      exact List.mem_map_of_mem hz)
    omega
set_option maxRecDepth 100000 in
set_option maxHeartbeats 1000000 in
theorem law3_few (P M n : Int) (p : List Tm) (A : Option Addr) (c : Nat) (r : List Tm) (B : Option Addr) (d : Nat) (z : Int) (w : World) (hp : PowOk w) (hP : RP w A p) (hl : p.length ≤ 140737488355328) (hR : RP w B r) (hl2 : r.length ≤ 140737488355328) (hf : fewB 1500 [p, r] = false) :
    Calls Tryz.prog 3 #[fV P M, .int .i64 n, .agg #[.slice A p.length c, .slice B r.length d, .int .i64 z]] w fun e w' => e = .returned (.bool true) ∧ Kept w w' := by
  have K0 := kept_alloc (kept_refl w) (.cells #[.int .i64 P, .int .i64 M] 23)
  have K1 := kept_alloc K0 (.cells #[.slice A p.length c, .slice B r.length d, .int .i64 z] 27)
  have o3 := (Own.new w 23 [.int .i64 P, .int .i64 M]).alloc (.cells #[.slice A p.length c, .slice B r.length d, .int .i64 z] 27)
  have o5 := Own.new (w.alloc (.cells #[.int .i64 P, .int .i64 M] 23)) 27 [.slice A p.length c, .slice B r.length d, .int .i64 z]
  obtain ⟨w0, hw0⟩ : ∃ w0, w0 = (w.alloc (.cells #[.int .i64 P, .int .i64 M] 23)).alloc (.cells #[.slice A p.length c, .slice B r.length d, .int .i64 z] 27) := ⟨_, rfl⟩
  have hz0 : (w.alloc (.cells #[.int .i64 P, .int .i64 M] 23)).heap.size = w.heap.size + 1 := by simp
  rw [hz0] at o5
  have o5' : Own w0 (w.heap.size + 1) 27 [.slice A p.length c, .slice B r.length d, .int .i64 z] := by rw [hw0]; exact o5
  rw [← hw0] at K1 o3
  have HW0 := Lib.hid hw0
  have C6 := Lib.hid (few12_any 1500 [p, r] (some ⟨w0.heap.size, 0, none⟩) 2 (w0.alloc (.cells #[.slice A p.length c, .slice B r.length d] 25)) (by decide) (by decide) (rpp_two (hP.kept K1) (hR.kept K1) hl hl2) (by simp))
  rw [show ([p, r] : List (List Tm)).length = 2 from rfl] at C6
  have C7 := Lib.hid fun w' (k : Kept w w') => alive13_any w' (hp.kept k)
  have CP := Lib.hid fun w' (k : Kept w w') => rvalid15_all P M n p A c w' (hP.kept k) hl
  have CR := Lib.hid fun w' (k : Kept w w') => rvalid15_all P M n r B d w' (hR.kept k) hl2
  have K2 := kept_alloc K1 (.cells #[.slice A p.length c, .slice B r.length d] 25)
  have o3' := o3.alloc (.cells #[.slice A p.length c, .slice B r.length d] 25)
  have o5'' := o5'.alloc (.cells #[.slice A p.length c, .slice B r.length d] 25)
  clear o5 hz0 hw0
  rw [hf] at C6
  unfold fV
  clear hP hf hp hR CP CR
  go_enter Tryz.func3, Tryz.ntmps3
  go_upto_region 1 with fail
  rw [← HW0.out]
  have x0 := o5'.cell (j := 0) rfl; have x1 := o5'.cell (j := 1) rfl
  go_wp2_with (first
    | (go_at_call 6; ((with_reducible refine C6.out.mono ?_); rintro e w1 ⟨rfl, rfl⟩))
    | (go_at_call 7; ((with_reducible refine (C7.out _ K2).mono ?_); rintro e w9 ⟨rfl, k9⟩; replace K2 := kept_trans K2 k9)))
  go_ret
  exact ⟨rfl, K2⟩
set_option maxRecDepth 100000 in
set_option maxHeartbeats 1000000 in
theorem law3_bad (P M n : Int) (p : List Tm) (A : Option Addr) (c : Nat) (r : List Tm) (B : Option Addr) (d : Nat) (z : Int) (w : World) (hp : PowOk w) (hP : RP w A p) (hl : p.length ≤ 140737488355328) (hR : RP w B r) (hl2 : r.length ≤ 140737488355328) (hf : fewB 1500 [p, r] = true) (hv : vld (ordF P M) n p = false) :
    Calls Tryz.prog 3 #[fV P M, .int .i64 n, .agg #[.slice A p.length c, .slice B r.length d, .int .i64 z]] w fun e w' => e = .returned (.bool true) ∧ Kept w w' := by
  have K0 := kept_alloc (kept_refl w) (.cells #[.int .i64 P, .int .i64 M] 23)
  have K1 := kept_alloc K0 (.cells #[.slice A p.length c, .slice B r.length d, .int .i64 z] 27)
  have o3 := (Own.new w 23 [.int .i64 P, .int .i64 M]).alloc (.cells #[.slice A p.length c, .slice B r.length d, .int .i64 z] 27)
  have o5 := Own.new (w.alloc (.cells #[.int .i64 P, .int .i64 M] 23)) 27 [.slice A p.length c, .slice B r.length d, .int .i64 z]
  obtain ⟨w0, hw0⟩ : ∃ w0, w0 = (w.alloc (.cells #[.int .i64 P, .int .i64 M] 23)).alloc (.cells #[.slice A p.length c, .slice B r.length d, .int .i64 z] 27) := ⟨_, rfl⟩
  have hz0 : (w.alloc (.cells #[.int .i64 P, .int .i64 M] 23)).heap.size = w.heap.size + 1 := by simp
  rw [hz0] at o5
  have o5' : Own w0 (w.heap.size + 1) 27 [.slice A p.length c, .slice B r.length d, .int .i64 z] := by rw [hw0]; exact o5
  rw [← hw0] at K1 o3
  have HW0 := Lib.hid hw0
  have C6 := Lib.hid (few12_any 1500 [p, r] (some ⟨w0.heap.size, 0, none⟩) 2 (w0.alloc (.cells #[.slice A p.length c, .slice B r.length d] 25)) (by decide) (by decide) (rpp_two (hP.kept K1) (hR.kept K1) hl hl2) (by simp))
  rw [show ([p, r] : List (List Tm)).length = 2 from rfl] at C6
  have C7 := Lib.hid fun w' (k : Kept w w') => alive13_any w' (hp.kept k)
  have CP := Lib.hid fun w' (k : Kept w w') => rvalid15_all P M n p A c w' (hP.kept k) hl
  have CR := Lib.hid fun w' (k : Kept w w') => rvalid15_all P M n r B d w' (hR.kept k) hl2
  have K2 := kept_alloc K1 (.cells #[.slice A p.length c, .slice B r.length d] 25)
  have o3' := o3.alloc (.cells #[.slice A p.length c, .slice B r.length d] 25)
  have o5'' := o5'.alloc (.cells #[.slice A p.length c, .slice B r.length d] 25)
  clear o5 hz0 hw0
  rw [hf] at C6
  have C8 := Lib.hid fun w' (k : Kept w w') => add8_bad P M n p r A B c d w' (hP.kept k) (hR.kept k) hl hl2 (.inl hv)
  have C9 := Lib.hid fun w' (k : Kept w w') => scale9_bad P M n z p A c w' (hP.kept k) hl hv
  have C11 := Lib.hid fun w' => is16_err 1 none none 0 0 0 w' (by decide)
  unfold PairErr at C8 C9
  rw [hv] at CP
  obtain ⟨b2, hb2⟩ : ∃ b, b = vld (ordF P M) n r := ⟨_, rfl⟩
  rw [← hb2] at CR
  unfold fV at *
  clear hP hf hp hR hv hb2
  go_enter Tryz.func3, Tryz.ntmps3
  go_upto_region 1 with fail
  rw [← HW0.out]
  have x0 := o5'.cell (j := 0) rfl; have x1 := o5'.cell (j := 1) rfl
  go_upto_region 5 with (first
    | (go_at_call 6; ((with_reducible refine C6.out.mono ?_); rintro e w1 ⟨rfl, rfl⟩; have y0 := o3'.cell (j := 0) rfl; have y1 := o3'.cell (j := 1) rfl; have v0 := o5''.cell (j := 0) rfl; have v1 := o5''.cell (j := 1) rfl; have v2 := o5''.cell (j := 2) rfl))
    | (go_at_call 8; ((with_reducible refine (C8.out _ K2).mono ?_); rintro e w2 ⟨rfl, k2⟩; replace K2 := kept_trans K2 k2; replace y0 := kept_cell k2 y0; replace y1 := kept_cell k2 y1; replace v0 := kept_cell k2 v0; replace v1 := kept_cell k2 v1; replace v2 := kept_cell k2 v2))
    | (go_at_call 9; ((with_reducible refine (C9.out _ K2).mono ?_); rintro e w3 ⟨rfl, k3⟩; replace K2 := kept_trans K2 k3; replace y0 := kept_cell k3 y0; replace y1 := kept_cell k3 y1; replace v0 := kept_cell k3 v0; replace v1 := kept_cell k3 v1; replace v2 := kept_cell k3 v2)))
  go_cut [11, 12] (fun s11 s12 wx => s11 = .bool false ∧ s12 = .bool b2 ∧ Kept w3 wx)
  case first =>
    refine region_x (fun w' => Kept w3 w') [] (by kernel_rfl) (kept_drew (kept_refl _)) (fun hHeld => ?_)
    refine x_take (i := 0) (oi := { dst := some 43, op := Op.load 23 (Operand.tmp 3), type := 23, pos := "law.go:74", after := #[], guard := none }) (v := ?_) rfl (by kernel_rfl) (by kernel_rfl) (by kernel_rfl) (by kernel_rfl) (by kernel_rfl) (fun _ _ _ h => h) (Or.inl ⟨rfl, ?_⟩) (by assumption) ?_
    rotate_left
    · (intro w' hSw; replace y0 := kept_cell hSw y0; replace y1 := kept_cell hSw y1; replace v0 := kept_cell hSw v0; replace v1 := kept_cell hSw v1; go_simp; try with_reducible rfl)
    try simp only [Act.put, List.setIfInBounds_toArray, List.set_cons_zero, List.set_cons_succ]
    refine x_take (i := 1) (oi := { dst := some 44, op := Op.move (Operand.tmp 1), type := 3, pos := "law.go:74", after := #[], guard := none }) (v := ?_) rfl (by kernel_rfl) (by kernel_rfl) (by kernel_rfl) (by kernel_rfl) (by kernel_rfl) (fun _ _ _ h => h) (Or.inl ⟨rfl, ?_⟩) (by assumption) ?_
    rotate_left
    · (intro w' hSw; replace y0 := kept_cell hSw y0; replace y1 := kept_cell hSw y1; replace v0 := kept_cell hSw v0; replace v1 := kept_cell hSw v1; go_simp; try with_reducible rfl)
    try simp only [Act.put, List.setIfInBounds_toArray, List.set_cons_zero, List.set_cons_succ]
    refine x_take (i := 2) (oi := { dst := some 45, op := Op.fieldAddr 27 (Operand.tmp 5) 0, type := 0, pos := "law.go:74", after := #[], guard := none }) (v := ?_) rfl (by kernel_rfl) (by kernel_rfl) (by kernel_rfl) (by kernel_rfl) (by kernel_rfl) (fun _ _ _ h => h) (Or.inl ⟨rfl, ?_⟩) (by assumption) ?_
    rotate_left
    · (intro w' hSw; replace y0 := kept_cell hSw y0; replace y1 := kept_cell hSw y1; replace v0 := kept_cell hSw v0; replace v1 := kept_cell hSw v1; go_simp; try with_reducible rfl)
    try simp only [Act.put, List.setIfInBounds_toArray, List.set_cons_zero, List.set_cons_succ]
    refine x_take (i := 3) (oi := { dst := some 46, op := Op.load 25 (Operand.tmp 45), type := 25, pos := "law.go:74", after := #[{ on := 2, ground := Ground.data }], guard := none }) (v := ?_) rfl (by kernel_rfl) (by kernel_rfl) (by kernel_rfl) (by kernel_rfl) (by kernel_rfl) (fun _ _ _ h => h) (Or.inl ⟨rfl, ?_⟩) (by assumption) ?_
    rotate_left
    · (intro w' hSw; replace y0 := kept_cell hSw y0; replace y1 := kept_cell hSw y1; replace v0 := kept_cell hSw v0; replace v1 := kept_cell hSw v1; go_simp; try with_reducible rfl)
    try simp only [Act.put, List.setIfInBounds_toArray, List.set_cons_zero, List.set_cons_succ]
    refine x_take (i := 5) (oi := { dst := some 48, op := Op.load 23 (Operand.tmp 3), type := 23, pos := "law.go:74", after := #[], guard := none }) (v := ?_) rfl (by kernel_rfl) (by kernel_rfl) (by kernel_rfl) (by kernel_rfl) (by kernel_rfl) (fun _ _ _ h => h) (Or.inl ⟨rfl, ?_⟩) (by assumption) ?_
    rotate_left
    · (intro w' hSw; replace y0 := kept_cell hSw y0; replace y1 := kept_cell hSw y1; replace v0 := kept_cell hSw v0; replace v1 := kept_cell hSw v1; go_simp; try with_reducible rfl)
    try simp only [Act.put, List.setIfInBounds_toArray, List.set_cons_zero, List.set_cons_succ]
    refine x_take (i := 6) (oi := { dst := some 49, op := Op.move (Operand.tmp 1), type := 3, pos := "law.go:74", after := #[], guard := none }) (v := ?_) rfl (by kernel_rfl) (by kernel_rfl) (by kernel_rfl) (by kernel_rfl) (by kernel_rfl) (fun _ _ _ h => h) (Or.inl ⟨rfl, ?_⟩) (by assumption) ?_
    rotate_left
    · (intro w' hSw; replace y0 := kept_cell hSw y0; replace y1 := kept_cell hSw y1; replace v0 := kept_cell hSw v0; replace v1 := kept_cell hSw v1; go_simp; try with_reducible rfl)
    try simp only [Act.put, List.setIfInBounds_toArray, List.set_cons_zero, List.set_cons_succ]
    refine x_take (i := 7) (oi := { dst := some 50, op := Op.fieldAddr 27 (Operand.tmp 5) 1, type := 0, pos := "law.go:74", after := #[], guard := none }) (v := ?_) rfl (by kernel_rfl) (by kernel_rfl) (by kernel_rfl) (by kernel_rfl) (by kernel_rfl) (fun _ _ _ h => h) (Or.inl ⟨rfl, ?_⟩) (by assumption) ?_
    rotate_left
    · (intro w' hSw; replace y0 := kept_cell hSw y0; replace y1 := kept_cell hSw y1; replace v0 := kept_cell hSw v0; replace v1 := kept_cell hSw v1; go_simp; try with_reducible rfl)
    try simp only [Act.put, List.setIfInBounds_toArray, List.set_cons_zero, List.set_cons_succ]
    refine x_take (i := 8) (oi := { dst := some 51, op := Op.load 25 (Operand.tmp 50), type := 25, pos := "law.go:74", after := #[{ on := 7, ground := Ground.data }], guard := none }) (v := ?_) rfl (by kernel_rfl) (by kernel_rfl) (by kernel_rfl) (by kernel_rfl) (by kernel_rfl) (fun _ _ _ h => h) (Or.inl ⟨rfl, ?_⟩) (by assumption) ?_
    rotate_left
    · (intro w' hSw; replace y0 := kept_cell hSw y0; replace y1 := kept_cell hSw y1; replace v0 := kept_cell hSw v0; replace v1 := kept_cell hSw v1; go_simp; try with_reducible rfl)
    try simp only [Act.put, List.setIfInBounds_toArray, List.set_cons_zero, List.set_cons_succ]
    refine x_one (i := 4) (o := { dst := some 47, op := Op.call { callee := Callee.value (Operand.func 10), args := #[Operand.tmp 43, Operand.tmp 44, Operand.tmp 46], argTypes := #[23, 3, 25] }, type := 4, pos := "law.go:74", after := #[{ on := 0, ground := Ground.data }, { on := 1, ground := Ground.data }, { on := 3, ground := Ground.data }], guard := none }) (by kernel_rfl) rfl (fun K hK => ?_)
    (go_simp; go_at_call 10; (with_reducible refine (CP.out _ (kept_trans K2 hHeld)).mono ?_); rintro e w4 ⟨rfl, k4⟩; have G4 := kept_trans hHeld k4; try dsimp only)
    refine hK.out _ _ ?_ (fun hHeld => ?_)
    · (try dsimp only); repeat (first | assumption | exact kept_refl _ | refine kept_drew ?_ | refine kept_alloc ?_ _ | refine kept_set ?_ (by omega) _)
    clear hK K
    try simp only [Act.put, List.setIfInBounds_toArray, List.set_cons_zero, List.set_cons_succ]
    refine x_one (i := 9) (o := { dst := some 52, op := Op.call { callee := Callee.value (Operand.func 10), args := #[Operand.tmp 48, Operand.tmp 49, Operand.tmp 51], argTypes := #[23, 3, 25] }, type := 4, pos := "law.go:74", after := #[{ on := 5, ground := Ground.data }, { on := 6, ground := Ground.data }, { on := 8, ground := Ground.data }, { on := 4, ground := Ground.chain }], guard := none }) (by kernel_rfl) rfl (fun K hK => ?_)
    (go_simp; go_at_call 10; (with_reducible refine (CR.out _ (kept_trans K2 hHeld)).mono ?_); rintro e w5 ⟨rfl, k5⟩; have G5 := kept_trans hHeld k5; try dsimp only)
    refine hK.out _ _ ?_ (fun hHeld => ?_)
    · (try dsimp only); repeat (first | assumption | exact kept_refl _ | refine kept_drew ?_ | refine kept_alloc ?_ _ | refine kept_set ?_ (by omega) _)
    clear hK K
    try simp only [Act.put, List.setIfInBounds_toArray, List.set_cons_zero, List.set_cons_succ]
    refine x_take (i := 10) (oi := { dst := some 11, op := Op.assign (Operand.tmp 47), type := 4, pos := "law.go:74", after := #[{ on := 4, ground := Ground.data }, { on := 9, ground := Ground.chain }, { on := 0, ground := Ground.phase }, { on := 1, ground := Ground.phase }, { on := 2, ground := Ground.phase }, { on := 3, ground := Ground.phase }, { on := 4, ground := Ground.phase }, { on := 5, ground := Ground.textOnly Departure.lateStores }, { on := 6, ground := Ground.textOnly Departure.lateStores }, { on := 7, ground := Ground.textOnly Departure.lateStores }, { on := 8, ground := Ground.textOnly Departure.lateStores }, { on := 9, ground := Ground.textOnly Departure.lateStoresUnsure }], guard := none }) (v := ?_) rfl (by kernel_rfl) (by kernel_rfl) (by kernel_rfl) (by kernel_rfl) (by kernel_rfl) (fun _ _ _ h => h) (Or.inl ⟨rfl, ?_⟩) (by assumption) ?_
    rotate_left
    · (intro w' hSw; replace y0 := kept_cell hSw y0; replace y1 := kept_cell hSw y1; replace v0 := kept_cell hSw v0; replace v1 := kept_cell hSw v1; go_simp; try with_reducible rfl)
    try simp only [Act.put, List.setIfInBounds_toArray, List.set_cons_zero, List.set_cons_succ]
    refine x_take (i := 11) (oi := { dst := some 12, op := Op.assign (Operand.tmp 52), type := 4, pos := "law.go:74", after := #[{ on := 9, ground := Ground.data }, { on := 10, ground := Ground.chain }, { on := 0, ground := Ground.phase }, { on := 1, ground := Ground.phase }, { on := 2, ground := Ground.phase }, { on := 3, ground := Ground.phase }, { on := 4, ground := Ground.phase }, { on := 5, ground := Ground.phase }, { on := 6, ground := Ground.phase }, { on := 7, ground := Ground.phase }, { on := 8, ground := Ground.phase }, { on := 9, ground := Ground.phase }, { on := 10, ground := Ground.phase }], guard := none }) (v := ?_) rfl (by kernel_rfl) (by kernel_rfl) (by kernel_rfl) (by kernel_rfl) (by kernel_rfl) (fun _ _ _ h => h) (Or.inl ⟨rfl, ?_⟩) (by assumption) ?_
    rotate_left
    · (intro w' hSw; replace y0 := kept_cell hSw y0; replace y1 := kept_cell hSw y1; replace v0 := kept_cell hSw v0; replace v1 := kept_cell hSw v1; go_simp; try with_reducible rfl)
    try simp only [Act.put, List.setIfInBounds_toArray, List.set_cons_zero, List.set_cons_succ]
    refine x_done (by kernel_rfl) ?_ _
    (go_wp2_with fail; go_meet; exact ⟨rfl, rfl, by assumption⟩)
  case rest =>
    obtain ⟨rfl, rfl, KX⟩ := hcut
    replace K2 := kept_trans K2 KX; replace y0 := kept_cell KX y0; replace y1 := kept_cell KX y1; replace v0 := kept_cell KX v0; replace v1 := kept_cell KX v1; replace v2 := kept_cell KX v2
    go_wp2_with (first
      | (go_at_call 11; ((with_reducible refine (C11.out _).mono ?_); rintro e w8 ⟨rfl, k8⟩; replace K2 := kept_trans K2 k8))
      | (go_at_call 7; ((with_reducible refine (C7.out _ K2).mono ?_); rintro e w9 ⟨rfl, k9⟩; replace K2 := kept_trans K2 k9)))
    go_ret
    exact ⟨rfl, K2⟩
set_option maxRecDepth 100000 in
set_option maxHeartbeats 1000000 in
theorem law3_in_two (P M n : Int) (p : List Tm) (A : Option Addr) (c : Nat) (r : List Tm) (B : Option Addr) (d : Nat) (z : Int) (w : World) (hp : PowOk w) (hP : RP w A p) (hl : p.length ≤ 140737488355328) (hR : RP w B r) (hl2 : r.length ≤ 140737488355328) (hf : fewB 1500 [p, r] = true) (hv : vld (ordF P M) n p = true) (hv2 : vld (ordF P M) n r = true) (hx : inF P M z) :
    Calls Tryz.prog 3 #[fV P M, .int .i64 n, .agg #[.slice A p.length c, .slice B r.length d, .int .i64 z]] w fun e w' => e = .returned (.bool true) ∧ Kept w w' := by
  have K0 := kept_alloc (kept_refl w) (.cells #[.int .i64 P, .int .i64 M] 23)
  have K1 := kept_alloc K0 (.cells #[.slice A p.length c, .slice B r.length d, .int .i64 z] 27)
  have o3 := (Own.new w 23 [.int .i64 P, .int .i64 M]).alloc (.cells #[.slice A p.length c, .slice B r.length d, .int .i64 z] 27)
  have o5 := Own.new (w.alloc (.cells #[.int .i64 P, .int .i64 M] 23)) 27 [.slice A p.length c, .slice B r.length d, .int .i64 z]
  obtain ⟨w0, hw0⟩ : ∃ w0, w0 = (w.alloc (.cells #[.int .i64 P, .int .i64 M] 23)).alloc (.cells #[.slice A p.length c, .slice B r.length d, .int .i64 z] 27) := ⟨_, rfl⟩
  have hz0 : (w.alloc (.cells #[.int .i64 P, .int .i64 M] 23)).heap.size = w.heap.size + 1 := by simp
  rw [hz0] at o5
  have o5' : Own w0 (w.heap.size + 1) 27 [.slice A p.length c, .slice B r.length d, .int .i64 z] := by rw [hw0]; exact o5
  rw [← hw0] at K1 o3
  have HW0 := Lib.hid hw0
  have C6 := Lib.hid (few12_any 1500 [p, r] (some ⟨w0.heap.size, 0, none⟩) 2 (w0.alloc (.cells #[.slice A p.length c, .slice B r.length d] 25)) (by decide) (by decide) (rpp_two (hP.kept K1) (hR.kept K1) hl hl2) (by simp))
  rw [show ([p, r] : List (List Tm)).length = 2 from rfl] at C6
  have C7 := Lib.hid fun w' (k : Kept w w') => alive13_any w' (hp.kept k)
  have CP := Lib.hid fun w' (k : Kept w w') => rvalid15_all P M n p A c w' (hP.kept k) hl
  have CR := Lib.hid fun w' (k : Kept w w') => rvalid15_all P M n r B d w' (hR.kept k) hl2
  have K2 := kept_alloc K1 (.cells #[.slice A p.length c, .slice B r.length d] 25)
  have o3' := o3.alloc (.cells #[.slice A p.length c, .slice B r.length d] 25)
  have o5'' := o5'.alloc (.cells #[.slice A p.length c, .slice B r.length d] 25)
  clear o5 hz0 hw0
  rw [hf] at C6
  obtain ⟨hn, hlp, tp⟩ := vld_terms hv
  have ok := vld_ok hv
  have C12 := Lib.hid fun w' => of18_any P M w' ok
  have C13 := Lib.hid fun w' => is33_any P M z w'
  have hpr := few_two hf
  have C8 := Lib.hid fun w' (k : Kept w w') => add8_yes P M n p r A B c d w' (hP.kept k) (hR.kept k) hv hv2 (by omega)
  have C15 := Lib.hid fun w' (k : Kept w w') => radd15_row P M n p r A B c d w' (hP.kept k) (hR.kept k) hv hv2
  obtain ⟨T2, hT2⟩ : ∃ T, T = adT P M p r := ⟨_, rfl⟩
  have hT2l : T2.length ≤ 140737488355328 := by
    rw [hT2]
    have := adT_len (P := P) (M := M) (p := p) (r := r)
    omega
  unfold PairOk at C8
  unfold RowPost at C15
  rw [← hT2] at C8 C15
  have C11b := Lib.hid fun w' A B c d h1 h2 => is16_ok T2 T2 A B c d w' h1 h2 hT2l hT2l
  rw [show decide (T2 = T2) = true by simp] at C11b
  clear hT2 hT2l hpr
  have C9 := Lib.hid fun w' (k : Kept w w') => scale9_yes P M n z p A c w' (hP.kept k) hv hx
  have C14 := Lib.hid fun w' (k : Kept w w') => rscale14_any P M z n.toNat p A c w' ok (hP.kept k) hx (by omega) (vld_tms hv) hlp
  rw [sc_rs hv hx] at C14
  obtain ⟨T1, hT1⟩ : ∃ T, T = scT P M z p := ⟨_, rfl⟩
  have hT1l : T1.length ≤ 140737488355328 := by
    rw [hT1]
    have := scT_len P M z p
    omega
  unfold PairOk at C9
  unfold RowPost at C14
  rw [← hT1] at C9 C14
  have C11a := Lib.hid fun w' A B c d h1 h2 => is16_ok T1 T1 A B c d w' h1 h2 hT1l hT1l
  rw [show decide (T1 = T1) = true by simp] at C11a
  rw [show (decide (0 ≤ z) && decide (z < ordF P M)) = true by simp [hx.1, hx.2]] at C13
  clear hT1 hT1l
  rw [hv] at CP
  rw [hv2] at CR
  unfold fV kV at *
  obtain ⟨q, hqq⟩ : ∃ q, q = ordF P M := ⟨_, rfl⟩
  obtain ⟨km, hkm⟩ : ∃ km, km = kitM M := ⟨_, rfl⟩
  rw [← hqq, ← hkm] at C12 C13 C14 C15
  clear hP hf hp hR hv hv2 hx tp hlp hn ok hqq hkm
  go_enter Tryz.func3, Tryz.ntmps3
  go_upto_region 1 with fail
  rw [← HW0.out]
  have x0 := o5'.cell (j := 0) rfl; have x1 := o5'.cell (j := 1) rfl
  go_upto_region 5 with (first
    | (go_at_call 6; ((with_reducible refine C6.out.mono ?_); rintro e w1 ⟨rfl, rfl⟩; have y0 := o3'.cell (j := 0) rfl; have y1 := o3'.cell (j := 1) rfl; have v0 := o5''.cell (j := 0) rfl; have v1 := o5''.cell (j := 1) rfl; have v2 := o5''.cell (j := 2) rfl))
    | (go_at_call 8; ((with_reducible refine (C8.out _ K2).mono ?_); rintro e w2 ⟨A2, c2, rfl, hr2, k2⟩; replace K2 := kept_trans K2 k2; replace y0 := kept_cell k2 y0; replace y1 := kept_cell k2 y1; replace v0 := kept_cell k2 v0; replace v1 := kept_cell k2 v1; replace v2 := kept_cell k2 v2))
    | (go_at_call 9; ((with_reducible refine (C9.out _ K2).mono ?_); rintro e w3 ⟨A3, c3, rfl, hr3, k3⟩; replace K2 := kept_trans K2 k3; replace y0 := kept_cell k3 y0; replace y1 := kept_cell k3 y1; replace v0 := kept_cell k3 v0; replace v1 := kept_cell k3 v1; replace v2 := kept_cell k3 v2; replace hr2 := hr2.kept k3)))
  go_cut [11, 12] (fun s11 s12 wx => s11 = .bool true ∧ s12 = .bool true ∧ Kept w3 wx)
  case first =>
    refine region_x (fun w' => Kept w3 w') [] (by kernel_rfl) (kept_drew (kept_refl _)) (fun hHeld => ?_)
    refine x_take (i := 0) (oi := { dst := some 43, op := Op.load 23 (Operand.tmp 3), type := 23, pos := "law.go:74", after := #[], guard := none }) (v := ?_) rfl (by kernel_rfl) (by kernel_rfl) (by kernel_rfl) (by kernel_rfl) (by kernel_rfl) (fun _ _ _ h => h) (Or.inl ⟨rfl, ?_⟩) (by assumption) ?_
    rotate_left
    · (intro w' hSw; replace y0 := kept_cell hSw y0; replace y1 := kept_cell hSw y1; replace v0 := kept_cell hSw v0; replace v1 := kept_cell hSw v1; go_simp; try with_reducible rfl)
    try simp only [Act.put, List.setIfInBounds_toArray, List.set_cons_zero, List.set_cons_succ]
    refine x_take (i := 1) (oi := { dst := some 44, op := Op.move (Operand.tmp 1), type := 3, pos := "law.go:74", after := #[], guard := none }) (v := ?_) rfl (by kernel_rfl) (by kernel_rfl) (by kernel_rfl) (by kernel_rfl) (by kernel_rfl) (fun _ _ _ h => h) (Or.inl ⟨rfl, ?_⟩) (by assumption) ?_
    rotate_left
    · (intro w' hSw; replace y0 := kept_cell hSw y0; replace y1 := kept_cell hSw y1; replace v0 := kept_cell hSw v0; replace v1 := kept_cell hSw v1; go_simp; try with_reducible rfl)
    try simp only [Act.put, List.setIfInBounds_toArray, List.set_cons_zero, List.set_cons_succ]
    refine x_take (i := 2) (oi := { dst := some 45, op := Op.fieldAddr 27 (Operand.tmp 5) 0, type := 0, pos := "law.go:74", after := #[], guard := none }) (v := ?_) rfl (by kernel_rfl) (by kernel_rfl) (by kernel_rfl) (by kernel_rfl) (by kernel_rfl) (fun _ _ _ h => h) (Or.inl ⟨rfl, ?_⟩) (by assumption) ?_
    rotate_left
    · (intro w' hSw; replace y0 := kept_cell hSw y0; replace y1 := kept_cell hSw y1; replace v0 := kept_cell hSw v0; replace v1 := kept_cell hSw v1; go_simp; try with_reducible rfl)
    try simp only [Act.put, List.setIfInBounds_toArray, List.set_cons_zero, List.set_cons_succ]
    refine x_take (i := 3) (oi := { dst := some 46, op := Op.load 25 (Operand.tmp 45), type := 25, pos := "law.go:74", after := #[{ on := 2, ground := Ground.data }], guard := none }) (v := ?_) rfl (by kernel_rfl) (by kernel_rfl) (by kernel_rfl) (by kernel_rfl) (by kernel_rfl) (fun _ _ _ h => h) (Or.inl ⟨rfl, ?_⟩) (by assumption) ?_
    rotate_left
    · (intro w' hSw; replace y0 := kept_cell hSw y0; replace y1 := kept_cell hSw y1; replace v0 := kept_cell hSw v0; replace v1 := kept_cell hSw v1; go_simp; try with_reducible rfl)
    try simp only [Act.put, List.setIfInBounds_toArray, List.set_cons_zero, List.set_cons_succ]
    refine x_take (i := 5) (oi := { dst := some 48, op := Op.load 23 (Operand.tmp 3), type := 23, pos := "law.go:74", after := #[], guard := none }) (v := ?_) rfl (by kernel_rfl) (by kernel_rfl) (by kernel_rfl) (by kernel_rfl) (by kernel_rfl) (fun _ _ _ h => h) (Or.inl ⟨rfl, ?_⟩) (by assumption) ?_
    rotate_left
    · (intro w' hSw; replace y0 := kept_cell hSw y0; replace y1 := kept_cell hSw y1; replace v0 := kept_cell hSw v0; replace v1 := kept_cell hSw v1; go_simp; try with_reducible rfl)
    try simp only [Act.put, List.setIfInBounds_toArray, List.set_cons_zero, List.set_cons_succ]
    refine x_take (i := 6) (oi := { dst := some 49, op := Op.move (Operand.tmp 1), type := 3, pos := "law.go:74", after := #[], guard := none }) (v := ?_) rfl (by kernel_rfl) (by kernel_rfl) (by kernel_rfl) (by kernel_rfl) (by kernel_rfl) (fun _ _ _ h => h) (Or.inl ⟨rfl, ?_⟩) (by assumption) ?_
    rotate_left
    · (intro w' hSw; replace y0 := kept_cell hSw y0; replace y1 := kept_cell hSw y1; replace v0 := kept_cell hSw v0; replace v1 := kept_cell hSw v1; go_simp; try with_reducible rfl)
    try simp only [Act.put, List.setIfInBounds_toArray, List.set_cons_zero, List.set_cons_succ]
    refine x_take (i := 7) (oi := { dst := some 50, op := Op.fieldAddr 27 (Operand.tmp 5) 1, type := 0, pos := "law.go:74", after := #[], guard := none }) (v := ?_) rfl (by kernel_rfl) (by kernel_rfl) (by kernel_rfl) (by kernel_rfl) (by kernel_rfl) (fun _ _ _ h => h) (Or.inl ⟨rfl, ?_⟩) (by assumption) ?_
    rotate_left
    · (intro w' hSw; replace y0 := kept_cell hSw y0; replace y1 := kept_cell hSw y1; replace v0 := kept_cell hSw v0; replace v1 := kept_cell hSw v1; go_simp; try with_reducible rfl)
    try simp only [Act.put, List.setIfInBounds_toArray, List.set_cons_zero, List.set_cons_succ]
    refine x_take (i := 8) (oi := { dst := some 51, op := Op.load 25 (Operand.tmp 50), type := 25, pos := "law.go:74", after := #[{ on := 7, ground := Ground.data }], guard := none }) (v := ?_) rfl (by kernel_rfl) (by kernel_rfl) (by kernel_rfl) (by kernel_rfl) (by kernel_rfl) (fun _ _ _ h => h) (Or.inl ⟨rfl, ?_⟩) (by assumption) ?_
    rotate_left
    · (intro w' hSw; replace y0 := kept_cell hSw y0; replace y1 := kept_cell hSw y1; replace v0 := kept_cell hSw v0; replace v1 := kept_cell hSw v1; go_simp; try with_reducible rfl)
    try simp only [Act.put, List.setIfInBounds_toArray, List.set_cons_zero, List.set_cons_succ]
    refine x_one (i := 4) (o := { dst := some 47, op := Op.call { callee := Callee.value (Operand.func 10), args := #[Operand.tmp 43, Operand.tmp 44, Operand.tmp 46], argTypes := #[23, 3, 25] }, type := 4, pos := "law.go:74", after := #[{ on := 0, ground := Ground.data }, { on := 1, ground := Ground.data }, { on := 3, ground := Ground.data }], guard := none }) (by kernel_rfl) rfl (fun K hK => ?_)
    (go_simp; go_at_call 10; (with_reducible refine (CP.out _ (kept_trans K2 hHeld)).mono ?_); rintro e w4 ⟨rfl, k4⟩; have G4 := kept_trans hHeld k4; try dsimp only)
    refine hK.out _ _ ?_ (fun hHeld => ?_)
    · (try dsimp only); repeat (first | assumption | exact kept_refl _ | refine kept_drew ?_ | refine kept_alloc ?_ _ | refine kept_set ?_ (by omega) _)
    clear hK K
    try simp only [Act.put, List.setIfInBounds_toArray, List.set_cons_zero, List.set_cons_succ]
    refine x_one (i := 9) (o := { dst := some 52, op := Op.call { callee := Callee.value (Operand.func 10), args := #[Operand.tmp 48, Operand.tmp 49, Operand.tmp 51], argTypes := #[23, 3, 25] }, type := 4, pos := "law.go:74", after := #[{ on := 5, ground := Ground.data }, { on := 6, ground := Ground.data }, { on := 8, ground := Ground.data }, { on := 4, ground := Ground.chain }], guard := none }) (by kernel_rfl) rfl (fun K hK => ?_)
    (go_simp; go_at_call 10; (with_reducible refine (CR.out _ (kept_trans K2 hHeld)).mono ?_); rintro e w5 ⟨rfl, k5⟩; have G5 := kept_trans hHeld k5; try dsimp only)
    refine hK.out _ _ ?_ (fun hHeld => ?_)
    · (try dsimp only); repeat (first | assumption | exact kept_refl _ | refine kept_drew ?_ | refine kept_alloc ?_ _ | refine kept_set ?_ (by omega) _)
    clear hK K
    try simp only [Act.put, List.setIfInBounds_toArray, List.set_cons_zero, List.set_cons_succ]
    refine x_take (i := 10) (oi := { dst := some 11, op := Op.assign (Operand.tmp 47), type := 4, pos := "law.go:74", after := #[{ on := 4, ground := Ground.data }, { on := 9, ground := Ground.chain }, { on := 0, ground := Ground.phase }, { on := 1, ground := Ground.phase }, { on := 2, ground := Ground.phase }, { on := 3, ground := Ground.phase }, { on := 4, ground := Ground.phase }, { on := 5, ground := Ground.textOnly Departure.lateStores }, { on := 6, ground := Ground.textOnly Departure.lateStores }, { on := 7, ground := Ground.textOnly Departure.lateStores }, { on := 8, ground := Ground.textOnly Departure.lateStores }, { on := 9, ground := Ground.textOnly Departure.lateStoresUnsure }], guard := none }) (v := ?_) rfl (by kernel_rfl) (by kernel_rfl) (by kernel_rfl) (by kernel_rfl) (by kernel_rfl) (fun _ _ _ h => h) (Or.inl ⟨rfl, ?_⟩) (by assumption) ?_
    rotate_left
    · (intro w' hSw; replace y0 := kept_cell hSw y0; replace y1 := kept_cell hSw y1; replace v0 := kept_cell hSw v0; replace v1 := kept_cell hSw v1; go_simp; try with_reducible rfl)
    try simp only [Act.put, List.setIfInBounds_toArray, List.set_cons_zero, List.set_cons_succ]
    refine x_take (i := 11) (oi := { dst := some 12, op := Op.assign (Operand.tmp 52), type := 4, pos := "law.go:74", after := #[{ on := 9, ground := Ground.data }, { on := 10, ground := Ground.chain }, { on := 0, ground := Ground.phase }, { on := 1, ground := Ground.phase }, { on := 2, ground := Ground.phase }, { on := 3, ground := Ground.phase }, { on := 4, ground := Ground.phase }, { on := 5, ground := Ground.phase }, { on := 6, ground := Ground.phase }, { on := 7, ground := Ground.phase }, { on := 8, ground := Ground.phase }, { on := 9, ground := Ground.phase }, { on := 10, ground := Ground.phase }], guard := none }) (v := ?_) rfl (by kernel_rfl) (by kernel_rfl) (by kernel_rfl) (by kernel_rfl) (by kernel_rfl) (fun _ _ _ h => h) (Or.inl ⟨rfl, ?_⟩) (by assumption) ?_
    rotate_left
    · (intro w' hSw; replace y0 := kept_cell hSw y0; replace y1 := kept_cell hSw y1; replace v0 := kept_cell hSw v0; replace v1 := kept_cell hSw v1; go_simp; try with_reducible rfl)
    try simp only [Act.put, List.setIfInBounds_toArray, List.set_cons_zero, List.set_cons_succ]
    refine x_done (by kernel_rfl) ?_ _
    (go_wp2_with fail; go_meet; exact ⟨rfl, rfl, by assumption⟩)
  case rest =>
    obtain ⟨rfl, rfl, KX⟩ := hcut
    replace K2 := kept_trans K2 KX; replace y0 := kept_cell KX y0; replace y1 := kept_cell KX y1; replace v0 := kept_cell KX v0; replace v1 := kept_cell KX v1; replace v2 := kept_cell KX v2; replace hr2 := hr2.kept KX; replace hr3 := hr3.kept KX
    go_upto_region 9 with (go_at_call 12; ((with_reducible refine (C12.out _).mono ?_); rintro e w5 ⟨rfl, k5⟩; replace K2 := kept_trans K2 k5; replace y0 := kept_cell k5 y0; replace y1 := kept_cell k5 y1; replace v0 := kept_cell k5 v0; replace v1 := kept_cell k5 v1; replace v2 := kept_cell k5 v2; replace hr2 := hr2.kept k5; replace hr3 := hr3.kept k5))
    obtain ⟨w6, hw6⟩ : ∃ w6, w6 = w5.alloc (.cells #[.int .i64 P, .int .i64 M, .int .i64 q, .int .i64 km] 37) := ⟨_, rfl⟩
    rw [← hw6]
    have o13 : Own w6 w5.heap.size 37 [.int .i64 P, .int .i64 M, .int .i64 q, .int .i64 km] := by rw [hw6]; exact Own.new w5 37 _
    have k6 : Kept w5 w6 := by rw [hw6]; exact kept_alloc (kept_refl w5) _
    have z0 := o13.cell (j := 0) rfl; have z1 := o13.cell (j := 1) rfl; have z2 := o13.cell (j := 2) rfl; have z3 := o13.cell (j := 3) rfl
    replace K2 := kept_trans K2 k6; replace y0 := kept_cell k6 y0; replace y1 := kept_cell k6 y1; replace v0 := kept_cell k6 v0; replace v1 := kept_cell k6 v1; replace v2 := kept_cell k6 v2; replace hr2 := hr2.kept k6; replace hr3 := hr3.kept k6
    clear hw6
    go_wp2_with (first
      | (go_at_call 13; ((with_reducible refine (C13.out _).mono ?_); rintro e w7 ⟨rfl, k7⟩; replace K2 := kept_trans K2 k7; replace y0 := kept_cell k7 y0; replace y1 := kept_cell k7 y1; replace v0 := kept_cell k7 v0; replace v1 := kept_cell k7 v1; replace v2 := kept_cell k7 v2; replace z0 := kept_cell k7 z0; replace z1 := kept_cell k7 z1; replace z2 := kept_cell k7 z2; replace z3 := kept_cell k7 z3; replace hr2 := hr2.kept k7; replace hr3 := hr3.kept k7))
      | (go_at_call 14; ((with_reducible refine (C14.out _ K2).mono ?_); rintro e w8 ⟨A8, c8, rfl, hr8, k8⟩; replace K2 := kept_trans K2 k8; replace y0 := kept_cell k8 y0; replace y1 := kept_cell k8 y1; replace v0 := kept_cell k8 v0; replace v1 := kept_cell k8 v1; replace v2 := kept_cell k8 v2; replace z0 := kept_cell k8 z0; replace z1 := kept_cell k8 z1; replace z2 := kept_cell k8 z2; replace z3 := kept_cell k8 z3; replace hr2 := hr2.kept k8; replace hr3 := hr3.kept k8))
      | (go_at_call 11; ((with_reducible refine (C11a.out _ _ _ _ _ hr3 hr8).mono ?_); rintro e w10 ⟨rfl, k10⟩; replace K2 := kept_trans K2 k10; replace y0 := kept_cell k10 y0; replace y1 := kept_cell k10 y1; replace v0 := kept_cell k10 v0; replace v1 := kept_cell k10 v1; replace v2 := kept_cell k10 v2; replace z0 := kept_cell k10 z0; replace z1 := kept_cell k10 z1; replace z2 := kept_cell k10 z2; replace z3 := kept_cell k10 z3; replace hr2 := hr2.kept k10; replace hr3 := hr3.kept k10))
      | (go_at_call 15; ((with_reducible refine (C15.out _ K2).mono ?_); rintro e w11 ⟨A11, c11, rfl, hr11, k11⟩; replace K2 := kept_trans K2 k11; replace hr2 := hr2.kept k11))
      | (go_at_call 11; ((with_reducible refine (C11b.out _ _ _ _ _ hr2 hr11).mono ?_); rintro e w12 ⟨rfl, k12⟩; replace K2 := kept_trans K2 k12))
      | (go_at_call 7; ((with_reducible refine (C7.out _ K2).mono ?_); rintro e w9 ⟨rfl, k9⟩; replace K2 := kept_trans K2 k9)))
    go_ret
    exact ⟨rfl, K2⟩
set_option maxRecDepth 100000 in
set_option maxHeartbeats 1000000 in
theorem law3_in_one (P M n : Int) (p : List Tm) (A : Option Addr) (c : Nat) (r : List Tm) (B : Option Addr) (d : Nat) (z : Int) (w : World) (hp : PowOk w) (hP : RP w A p) (hl : p.length ≤ 140737488355328) (hR : RP w B r) (hl2 : r.length ≤ 140737488355328) (hf : fewB 1500 [p, r] = true) (hv : vld (ordF P M) n p = true) (hv2 : vld (ordF P M) n r = false) (hx : inF P M z) :
    Calls Tryz.prog 3 #[fV P M, .int .i64 n, .agg #[.slice A p.length c, .slice B r.length d, .int .i64 z]] w fun e w' => e = .returned (.bool true) ∧ Kept w w' := by
  have K0 := kept_alloc (kept_refl w) (.cells #[.int .i64 P, .int .i64 M] 23)
  have K1 := kept_alloc K0 (.cells #[.slice A p.length c, .slice B r.length d, .int .i64 z] 27)
  have o3 := (Own.new w 23 [.int .i64 P, .int .i64 M]).alloc (.cells #[.slice A p.length c, .slice B r.length d, .int .i64 z] 27)
  have o5 := Own.new (w.alloc (.cells #[.int .i64 P, .int .i64 M] 23)) 27 [.slice A p.length c, .slice B r.length d, .int .i64 z]
  obtain ⟨w0, hw0⟩ : ∃ w0, w0 = (w.alloc (.cells #[.int .i64 P, .int .i64 M] 23)).alloc (.cells #[.slice A p.length c, .slice B r.length d, .int .i64 z] 27) := ⟨_, rfl⟩
  have hz0 : (w.alloc (.cells #[.int .i64 P, .int .i64 M] 23)).heap.size = w.heap.size + 1 := by simp
  rw [hz0] at o5
  have o5' : Own w0 (w.heap.size + 1) 27 [.slice A p.length c, .slice B r.length d, .int .i64 z] := by rw [hw0]; exact o5
  rw [← hw0] at K1 o3
  have HW0 := Lib.hid hw0
  have C6 := Lib.hid (few12_any 1500 [p, r] (some ⟨w0.heap.size, 0, none⟩) 2 (w0.alloc (.cells #[.slice A p.length c, .slice B r.length d] 25)) (by decide) (by decide) (rpp_two (hP.kept K1) (hR.kept K1) hl hl2) (by simp))
  rw [show ([p, r] : List (List Tm)).length = 2 from rfl] at C6
  have C7 := Lib.hid fun w' (k : Kept w w') => alive13_any w' (hp.kept k)
  have CP := Lib.hid fun w' (k : Kept w w') => rvalid15_all P M n p A c w' (hP.kept k) hl
  have CR := Lib.hid fun w' (k : Kept w w') => rvalid15_all P M n r B d w' (hR.kept k) hl2
  have K2 := kept_alloc K1 (.cells #[.slice A p.length c, .slice B r.length d] 25)
  have o3' := o3.alloc (.cells #[.slice A p.length c, .slice B r.length d] 25)
  have o5'' := o5'.alloc (.cells #[.slice A p.length c, .slice B r.length d] 25)
  clear o5 hz0 hw0
  rw [hf] at C6
  obtain ⟨hn, hlp, tp⟩ := vld_terms hv
  have ok := vld_ok hv
  have C12 := Lib.hid fun w' => of18_any P M w' ok
  have C13 := Lib.hid fun w' => is33_any P M z w'
  have C8 := Lib.hid fun w' (k : Kept w w') => add8_bad P M n p r A B c d w' (hP.kept k) (hR.kept k) hl hl2 (.inr hv2)
  have C11b := Lib.hid fun w' => is16_err 1 none none 0 0 0 w' (by decide)
  unfold PairErr at C8
  have C9 := Lib.hid fun w' (k : Kept w w') => scale9_yes P M n z p A c w' (hP.kept k) hv hx
  have C14 := Lib.hid fun w' (k : Kept w w') => rscale14_any P M z n.toNat p A c w' ok (hP.kept k) hx (by omega) (vld_tms hv) hlp
  rw [sc_rs hv hx] at C14
  obtain ⟨T1, hT1⟩ : ∃ T, T = scT P M z p := ⟨_, rfl⟩
  have hT1l : T1.length ≤ 140737488355328 := by
    rw [hT1]
    have := scT_len P M z p
    omega
  unfold PairOk at C9
  unfold RowPost at C14
  rw [← hT1] at C9 C14
  have C11a := Lib.hid fun w' A B c d h1 h2 => is16_ok T1 T1 A B c d w' h1 h2 hT1l hT1l
  rw [show decide (T1 = T1) = true by simp] at C11a
  rw [show (decide (0 ≤ z) && decide (z < ordF P M)) = true by simp [hx.1, hx.2]] at C13
  clear hT1 hT1l
  rw [hv] at CP
  rw [hv2] at CR
  unfold fV kV at *
  obtain ⟨q, hqq⟩ : ∃ q, q = ordF P M := ⟨_, rfl⟩
  obtain ⟨km, hkm⟩ : ∃ km, km = kitM M := ⟨_, rfl⟩
  rw [← hqq, ← hkm] at C12 C13 C14
  clear hP hf hp hR hv hv2 hx tp hlp hn ok hqq hkm
  go_enter Tryz.func3, Tryz.ntmps3
  go_upto_region 1 with fail
  rw [← HW0.out]
  have x0 := o5'.cell (j := 0) rfl; have x1 := o5'.cell (j := 1) rfl
  go_upto_region 5 with (first
    | (go_at_call 6; ((with_reducible refine C6.out.mono ?_); rintro e w1 ⟨rfl, rfl⟩; have y0 := o3'.cell (j := 0) rfl; have y1 := o3'.cell (j := 1) rfl; have v0 := o5''.cell (j := 0) rfl; have v1 := o5''.cell (j := 1) rfl; have v2 := o5''.cell (j := 2) rfl))
    | (go_at_call 8; ((with_reducible refine (C8.out _ K2).mono ?_); rintro e w2 ⟨rfl, k2⟩; replace K2 := kept_trans K2 k2; replace y0 := kept_cell k2 y0; replace y1 := kept_cell k2 y1; replace v0 := kept_cell k2 v0; replace v1 := kept_cell k2 v1; replace v2 := kept_cell k2 v2))
    | (go_at_call 9; ((with_reducible refine (C9.out _ K2).mono ?_); rintro e w3 ⟨A3, c3, rfl, hr3, k3⟩; replace K2 := kept_trans K2 k3; replace y0 := kept_cell k3 y0; replace y1 := kept_cell k3 y1; replace v0 := kept_cell k3 v0; replace v1 := kept_cell k3 v1; replace v2 := kept_cell k3 v2)))
  go_cut [11, 12] (fun s11 s12 wx => s11 = .bool true ∧ s12 = .bool false ∧ Kept w3 wx)
  case first =>
    refine region_x (fun w' => Kept w3 w') [] (by kernel_rfl) (kept_drew (kept_refl _)) (fun hHeld => ?_)
    refine x_take (i := 0) (oi := { dst := some 43, op := Op.load 23 (Operand.tmp 3), type := 23, pos := "law.go:74", after := #[], guard := none }) (v := ?_) rfl (by kernel_rfl) (by kernel_rfl) (by kernel_rfl) (by kernel_rfl) (by kernel_rfl) (fun _ _ _ h => h) (Or.inl ⟨rfl, ?_⟩) (by assumption) ?_
    rotate_left
    · (intro w' hSw; replace y0 := kept_cell hSw y0; replace y1 := kept_cell hSw y1; replace v0 := kept_cell hSw v0; replace v1 := kept_cell hSw v1; go_simp; try with_reducible rfl)
    try simp only [Act.put, List.setIfInBounds_toArray, List.set_cons_zero, List.set_cons_succ]
    refine x_take (i := 1) (oi := { dst := some 44, op := Op.move (Operand.tmp 1), type := 3, pos := "law.go:74", after := #[], guard := none }) (v := ?_) rfl (by kernel_rfl) (by kernel_rfl) (by kernel_rfl) (by kernel_rfl) (by kernel_rfl) (fun _ _ _ h => h) (Or.inl ⟨rfl, ?_⟩) (by assumption) ?_
    rotate_left
    · (intro w' hSw; replace y0 := kept_cell hSw y0; replace y1 := kept_cell hSw y1; replace v0 := kept_cell hSw v0; replace v1 := kept_cell hSw v1; go_simp; try with_reducible rfl)
    try simp only [Act.put, List.setIfInBounds_toArray, List.set_cons_zero, List.set_cons_succ]
    refine x_take (i := 2) (oi := { dst := some 45, op := Op.fieldAddr 27 (Operand.tmp 5) 0, type := 0, pos := "law.go:74", after := #[], guard := none }) (v := ?_) rfl (by kernel_rfl) (by kernel_rfl) (by kernel_rfl) (by kernel_rfl) (by kernel_rfl) (fun _ _ _ h => h) (Or.inl ⟨rfl, ?_⟩) (by assumption) ?_
    rotate_left
    · (intro w' hSw; replace y0 := kept_cell hSw y0; replace y1 := kept_cell hSw y1; replace v0 := kept_cell hSw v0; replace v1 := kept_cell hSw v1; go_simp; try with_reducible rfl)
    try simp only [Act.put, List.setIfInBounds_toArray, List.set_cons_zero, List.set_cons_succ]
    refine x_take (i := 3) (oi := { dst := some 46, op := Op.load 25 (Operand.tmp 45), type := 25, pos := "law.go:74", after := #[{ on := 2, ground := Ground.data }], guard := none }) (v := ?_) rfl (by kernel_rfl) (by kernel_rfl) (by kernel_rfl) (by kernel_rfl) (by kernel_rfl) (fun _ _ _ h => h) (Or.inl ⟨rfl, ?_⟩) (by assumption) ?_
    rotate_left
    · (intro w' hSw; replace y0 := kept_cell hSw y0; replace y1 := kept_cell hSw y1; replace v0 := kept_cell hSw v0; replace v1 := kept_cell hSw v1; go_simp; try with_reducible rfl)
    try simp only [Act.put, List.setIfInBounds_toArray, List.set_cons_zero, List.set_cons_succ]
    refine x_take (i := 5) (oi := { dst := some 48, op := Op.load 23 (Operand.tmp 3), type := 23, pos := "law.go:74", after := #[], guard := none }) (v := ?_) rfl (by kernel_rfl) (by kernel_rfl) (by kernel_rfl) (by kernel_rfl) (by kernel_rfl) (fun _ _ _ h => h) (Or.inl ⟨rfl, ?_⟩) (by assumption) ?_
    rotate_left
    · (intro w' hSw; replace y0 := kept_cell hSw y0; replace y1 := kept_cell hSw y1; replace v0 := kept_cell hSw v0; replace v1 := kept_cell hSw v1; go_simp; try with_reducible rfl)
    try simp only [Act.put, List.setIfInBounds_toArray, List.set_cons_zero, List.set_cons_succ]
    refine x_take (i := 6) (oi := { dst := some 49, op := Op.move (Operand.tmp 1), type := 3, pos := "law.go:74", after := #[], guard := none }) (v := ?_) rfl (by kernel_rfl) (by kernel_rfl) (by kernel_rfl) (by kernel_rfl) (by kernel_rfl) (fun _ _ _ h => h) (Or.inl ⟨rfl, ?_⟩) (by assumption) ?_
    rotate_left
    · (intro w' hSw; replace y0 := kept_cell hSw y0; replace y1 := kept_cell hSw y1; replace v0 := kept_cell hSw v0; replace v1 := kept_cell hSw v1; go_simp; try with_reducible rfl)
    try simp only [Act.put, List.setIfInBounds_toArray, List.set_cons_zero, List.set_cons_succ]
    refine x_take (i := 7) (oi := { dst := some 50, op := Op.fieldAddr 27 (Operand.tmp 5) 1, type := 0, pos := "law.go:74", after := #[], guard := none }) (v := ?_) rfl (by kernel_rfl) (by kernel_rfl) (by kernel_rfl) (by kernel_rfl) (by kernel_rfl) (fun _ _ _ h => h) (Or.inl ⟨rfl, ?_⟩) (by assumption) ?_
    rotate_left
    · (intro w' hSw; replace y0 := kept_cell hSw y0; replace y1 := kept_cell hSw y1; replace v0 := kept_cell hSw v0; replace v1 := kept_cell hSw v1; go_simp; try with_reducible rfl)
    try simp only [Act.put, List.setIfInBounds_toArray, List.set_cons_zero, List.set_cons_succ]
    refine x_take (i := 8) (oi := { dst := some 51, op := Op.load 25 (Operand.tmp 50), type := 25, pos := "law.go:74", after := #[{ on := 7, ground := Ground.data }], guard := none }) (v := ?_) rfl (by kernel_rfl) (by kernel_rfl) (by kernel_rfl) (by kernel_rfl) (by kernel_rfl) (fun _ _ _ h => h) (Or.inl ⟨rfl, ?_⟩) (by assumption) ?_
    rotate_left
    · (intro w' hSw; replace y0 := kept_cell hSw y0; replace y1 := kept_cell hSw y1; replace v0 := kept_cell hSw v0; replace v1 := kept_cell hSw v1; go_simp; try with_reducible rfl)
    try simp only [Act.put, List.setIfInBounds_toArray, List.set_cons_zero, List.set_cons_succ]
    refine x_one (i := 4) (o := { dst := some 47, op := Op.call { callee := Callee.value (Operand.func 10), args := #[Operand.tmp 43, Operand.tmp 44, Operand.tmp 46], argTypes := #[23, 3, 25] }, type := 4, pos := "law.go:74", after := #[{ on := 0, ground := Ground.data }, { on := 1, ground := Ground.data }, { on := 3, ground := Ground.data }], guard := none }) (by kernel_rfl) rfl (fun K hK => ?_)
    (go_simp; go_at_call 10; (with_reducible refine (CP.out _ (kept_trans K2 hHeld)).mono ?_); rintro e w4 ⟨rfl, k4⟩; have G4 := kept_trans hHeld k4; try dsimp only)
    refine hK.out _ _ ?_ (fun hHeld => ?_)
    · (try dsimp only); repeat (first | assumption | exact kept_refl _ | refine kept_drew ?_ | refine kept_alloc ?_ _ | refine kept_set ?_ (by omega) _)
    clear hK K
    try simp only [Act.put, List.setIfInBounds_toArray, List.set_cons_zero, List.set_cons_succ]
    refine x_one (i := 9) (o := { dst := some 52, op := Op.call { callee := Callee.value (Operand.func 10), args := #[Operand.tmp 48, Operand.tmp 49, Operand.tmp 51], argTypes := #[23, 3, 25] }, type := 4, pos := "law.go:74", after := #[{ on := 5, ground := Ground.data }, { on := 6, ground := Ground.data }, { on := 8, ground := Ground.data }, { on := 4, ground := Ground.chain }], guard := none }) (by kernel_rfl) rfl (fun K hK => ?_)
    (go_simp; go_at_call 10; (with_reducible refine (CR.out _ (kept_trans K2 hHeld)).mono ?_); rintro e w5 ⟨rfl, k5⟩; have G5 := kept_trans hHeld k5; try dsimp only)
    refine hK.out _ _ ?_ (fun hHeld => ?_)
    · (try dsimp only); repeat (first | assumption | exact kept_refl _ | refine kept_drew ?_ | refine kept_alloc ?_ _ | refine kept_set ?_ (by omega) _)
    clear hK K
    try simp only [Act.put, List.setIfInBounds_toArray, List.set_cons_zero, List.set_cons_succ]
    refine x_take (i := 10) (oi := { dst := some 11, op := Op.assign (Operand.tmp 47), type := 4, pos := "law.go:74", after := #[{ on := 4, ground := Ground.data }, { on := 9, ground := Ground.chain }, { on := 0, ground := Ground.phase }, { on := 1, ground := Ground.phase }, { on := 2, ground := Ground.phase }, { on := 3, ground := Ground.phase }, { on := 4, ground := Ground.phase }, { on := 5, ground := Ground.textOnly Departure.lateStores }, { on := 6, ground := Ground.textOnly Departure.lateStores }, { on := 7, ground := Ground.textOnly Departure.lateStores }, { on := 8, ground := Ground.textOnly Departure.lateStores }, { on := 9, ground := Ground.textOnly Departure.lateStoresUnsure }], guard := none }) (v := ?_) rfl (by kernel_rfl) (by kernel_rfl) (by kernel_rfl) (by kernel_rfl) (by kernel_rfl) (fun _ _ _ h => h) (Or.inl ⟨rfl, ?_⟩) (by assumption) ?_
    rotate_left
    · (intro w' hSw; replace y0 := kept_cell hSw y0; replace y1 := kept_cell hSw y1; replace v0 := kept_cell hSw v0; replace v1 := kept_cell hSw v1; go_simp; try with_reducible rfl)
    try simp only [Act.put, List.setIfInBounds_toArray, List.set_cons_zero, List.set_cons_succ]
    refine x_take (i := 11) (oi := { dst := some 12, op := Op.assign (Operand.tmp 52), type := 4, pos := "law.go:74", after := #[{ on := 9, ground := Ground.data }, { on := 10, ground := Ground.chain }, { on := 0, ground := Ground.phase }, { on := 1, ground := Ground.phase }, { on := 2, ground := Ground.phase }, { on := 3, ground := Ground.phase }, { on := 4, ground := Ground.phase }, { on := 5, ground := Ground.phase }, { on := 6, ground := Ground.phase }, { on := 7, ground := Ground.phase }, { on := 8, ground := Ground.phase }, { on := 9, ground := Ground.phase }, { on := 10, ground := Ground.phase }], guard := none }) (v := ?_) rfl (by kernel_rfl) (by kernel_rfl) (by kernel_rfl) (by kernel_rfl) (by kernel_rfl) (fun _ _ _ h => h) (Or.inl ⟨rfl, ?_⟩) (by assumption) ?_
    rotate_left
    · (intro w' hSw; replace y0 := kept_cell hSw y0; replace y1 := kept_cell hSw y1; replace v0 := kept_cell hSw v0; replace v1 := kept_cell hSw v1; go_simp; try with_reducible rfl)
    try simp only [Act.put, List.setIfInBounds_toArray, List.set_cons_zero, List.set_cons_succ]
    refine x_done (by kernel_rfl) ?_ _
    (go_wp2_with fail; go_meet; exact ⟨rfl, rfl, by assumption⟩)
  case rest =>
    obtain ⟨rfl, rfl, KX⟩ := hcut
    replace K2 := kept_trans K2 KX; replace y0 := kept_cell KX y0; replace y1 := kept_cell KX y1; replace v0 := kept_cell KX v0; replace v1 := kept_cell KX v1; replace v2 := kept_cell KX v2; replace hr3 := hr3.kept KX
    go_upto_region 9 with (go_at_call 12; ((with_reducible refine (C12.out _).mono ?_); rintro e w5 ⟨rfl, k5⟩; replace K2 := kept_trans K2 k5; replace y0 := kept_cell k5 y0; replace y1 := kept_cell k5 y1; replace v0 := kept_cell k5 v0; replace v1 := kept_cell k5 v1; replace v2 := kept_cell k5 v2; replace hr3 := hr3.kept k5))
    obtain ⟨w6, hw6⟩ : ∃ w6, w6 = w5.alloc (.cells #[.int .i64 P, .int .i64 M, .int .i64 q, .int .i64 km] 37) := ⟨_, rfl⟩
    rw [← hw6]
    have o13 : Own w6 w5.heap.size 37 [.int .i64 P, .int .i64 M, .int .i64 q, .int .i64 km] := by rw [hw6]; exact Own.new w5 37 _
    have k6 : Kept w5 w6 := by rw [hw6]; exact kept_alloc (kept_refl w5) _
    have z0 := o13.cell (j := 0) rfl; have z1 := o13.cell (j := 1) rfl; have z2 := o13.cell (j := 2) rfl; have z3 := o13.cell (j := 3) rfl
    replace K2 := kept_trans K2 k6; replace y0 := kept_cell k6 y0; replace y1 := kept_cell k6 y1; replace v0 := kept_cell k6 v0; replace v1 := kept_cell k6 v1; replace v2 := kept_cell k6 v2; replace hr3 := hr3.kept k6
    clear hw6
    go_wp2_with (first
      | (go_at_call 13; ((with_reducible refine (C13.out _).mono ?_); rintro e w7 ⟨rfl, k7⟩; replace K2 := kept_trans K2 k7; replace y0 := kept_cell k7 y0; replace y1 := kept_cell k7 y1; replace v0 := kept_cell k7 v0; replace v1 := kept_cell k7 v1; replace v2 := kept_cell k7 v2; replace z0 := kept_cell k7 z0; replace z1 := kept_cell k7 z1; replace z2 := kept_cell k7 z2; replace z3 := kept_cell k7 z3; replace hr3 := hr3.kept k7))
      | (go_at_call 14; ((with_reducible refine (C14.out _ K2).mono ?_); rintro e w8 ⟨A8, c8, rfl, hr8, k8⟩; replace K2 := kept_trans K2 k8; replace y0 := kept_cell k8 y0; replace y1 := kept_cell k8 y1; replace v0 := kept_cell k8 v0; replace v1 := kept_cell k8 v1; replace v2 := kept_cell k8 v2; replace z0 := kept_cell k8 z0; replace z1 := kept_cell k8 z1; replace z2 := kept_cell k8 z2; replace z3 := kept_cell k8 z3; replace hr3 := hr3.kept k8))
      | (go_at_call 11; ((with_reducible refine (C11a.out _ _ _ _ _ hr3 hr8).mono ?_); rintro e w10 ⟨rfl, k10⟩; replace K2 := kept_trans K2 k10; replace y0 := kept_cell k10 y0; replace y1 := kept_cell k10 y1; replace v0 := kept_cell k10 v0; replace v1 := kept_cell k10 v1; replace v2 := kept_cell k10 v2; replace z0 := kept_cell k10 z0; replace z1 := kept_cell k10 z1; replace z2 := kept_cell k10 z2; replace z3 := kept_cell k10 z3; replace hr3 := hr3.kept k10))
      | (go_at_call 11; ((with_reducible refine (C11b.out _).mono ?_); rintro e w12 ⟨rfl, k12⟩; replace K2 := kept_trans K2 k12))
      | (go_at_call 7; ((with_reducible refine (C7.out _ K2).mono ?_); rintro e w9 ⟨rfl, k9⟩; replace K2 := kept_trans K2 k9)))
    go_ret
    exact ⟨rfl, K2⟩
set_option maxRecDepth 100000 in
set_option maxHeartbeats 1000000 in
theorem law3_out_two (P M n : Int) (p : List Tm) (A : Option Addr) (c : Nat) (r : List Tm) (B : Option Addr) (d : Nat) (z : Int) (w : World) (hp : PowOk w) (hP : RP w A p) (hl : p.length ≤ 140737488355328) (hR : RP w B r) (hl2 : r.length ≤ 140737488355328) (hf : fewB 1500 [p, r] = true) (hv : vld (ordF P M) n p = true) (hv2 : vld (ordF P M) n r = true) (hx : ¬ (0 ≤ z ∧ z < ordF P M)) :
    Calls Tryz.prog 3 #[fV P M, .int .i64 n, .agg #[.slice A p.length c, .slice B r.length d, .int .i64 z]] w fun e w' => e = .returned (.bool true) ∧ Kept w w' := by
  have K0 := kept_alloc (kept_refl w) (.cells #[.int .i64 P, .int .i64 M] 23)
  have K1 := kept_alloc K0 (.cells #[.slice A p.length c, .slice B r.length d, .int .i64 z] 27)
  have o3 := (Own.new w 23 [.int .i64 P, .int .i64 M]).alloc (.cells #[.slice A p.length c, .slice B r.length d, .int .i64 z] 27)
  have o5 := Own.new (w.alloc (.cells #[.int .i64 P, .int .i64 M] 23)) 27 [.slice A p.length c, .slice B r.length d, .int .i64 z]
  obtain ⟨w0, hw0⟩ : ∃ w0, w0 = (w.alloc (.cells #[.int .i64 P, .int .i64 M] 23)).alloc (.cells #[.slice A p.length c, .slice B r.length d, .int .i64 z] 27) := ⟨_, rfl⟩
  have hz0 : (w.alloc (.cells #[.int .i64 P, .int .i64 M] 23)).heap.size = w.heap.size + 1 := by simp
  rw [hz0] at o5
  have o5' : Own w0 (w.heap.size + 1) 27 [.slice A p.length c, .slice B r.length d, .int .i64 z] := by rw [hw0]; exact o5
  rw [← hw0] at K1 o3
  have HW0 := Lib.hid hw0
  have C6 := Lib.hid (few12_any 1500 [p, r] (some ⟨w0.heap.size, 0, none⟩) 2 (w0.alloc (.cells #[.slice A p.length c, .slice B r.length d] 25)) (by decide) (by decide) (rpp_two (hP.kept K1) (hR.kept K1) hl hl2) (by simp))
  rw [show ([p, r] : List (List Tm)).length = 2 from rfl] at C6
  have C7 := Lib.hid fun w' (k : Kept w w') => alive13_any w' (hp.kept k)
  have CP := Lib.hid fun w' (k : Kept w w') => rvalid15_all P M n p A c w' (hP.kept k) hl
  have CR := Lib.hid fun w' (k : Kept w w') => rvalid15_all P M n r B d w' (hR.kept k) hl2
  have K2 := kept_alloc K1 (.cells #[.slice A p.length c, .slice B r.length d] 25)
  have o3' := o3.alloc (.cells #[.slice A p.length c, .slice B r.length d] 25)
  have o5'' := o5'.alloc (.cells #[.slice A p.length c, .slice B r.length d] 25)
  clear o5 hz0 hw0
  rw [hf] at C6
  obtain ⟨hn, hlp, tp⟩ := vld_terms hv
  have ok := vld_ok hv
  have C12 := Lib.hid fun w' => of18_any P M w' ok
  have C13 := Lib.hid fun w' => is33_any P M z w'
  have hpr := few_two hf
  have C8 := Lib.hid fun w' (k : Kept w w') => add8_yes P M n p r A B c d w' (hP.kept k) (hR.kept k) hv hv2 (by omega)
  have C15 := Lib.hid fun w' (k : Kept w w') => radd15_row P M n p r A B c d w' (hP.kept k) (hR.kept k) hv hv2
  obtain ⟨T2, hT2⟩ : ∃ T, T = adT P M p r := ⟨_, rfl⟩
  have hT2l : T2.length ≤ 140737488355328 := by
    rw [hT2]
    have := adT_len (P := P) (M := M) (p := p) (r := r)
    omega
  unfold PairOk at C8
  unfold RowPost at C15
  rw [← hT2] at C8 C15
  have C11b := Lib.hid fun w' A B c d h1 h2 => is16_ok T2 T2 A B c d w' h1 h2 hT2l hT2l
  rw [show decide (T2 = T2) = true by simp] at C11b
  clear hT2 hT2l hpr
  have C9 := Lib.hid fun w' (k : Kept w w') => scale9_arg P M n z p A c w' (hP.kept k) hl hv hx
  have C11a := Lib.hid fun w' => is16_err 2 none none 0 0 0 w' (by decide)
  unfold PairErr at C9
  rw [show (decide (0 ≤ z) && decide (z < ordF P M)) = false by
    rw [← Bool.decide_and]
    exact decide_eq_false hx] at C13
  rw [hv] at CP
  rw [hv2] at CR
  unfold fV kV at *
  obtain ⟨q, hqq⟩ : ∃ q, q = ordF P M := ⟨_, rfl⟩
  obtain ⟨km, hkm⟩ : ∃ km, km = kitM M := ⟨_, rfl⟩
  rw [← hqq, ← hkm] at C12 C13 C15
  clear hP hf hp hR hv hv2 hx tp hlp hn ok hqq hkm
  go_enter Tryz.func3, Tryz.ntmps3
  go_upto_region 1 with fail
  rw [← HW0.out]
  have x0 := o5'.cell (j := 0) rfl; have x1 := o5'.cell (j := 1) rfl
  go_upto_region 5 with (first
    | (go_at_call 6; ((with_reducible refine C6.out.mono ?_); rintro e w1 ⟨rfl, rfl⟩; have y0 := o3'.cell (j := 0) rfl; have y1 := o3'.cell (j := 1) rfl; have v0 := o5''.cell (j := 0) rfl; have v1 := o5''.cell (j := 1) rfl; have v2 := o5''.cell (j := 2) rfl))
    | (go_at_call 8; ((with_reducible refine (C8.out _ K2).mono ?_); rintro e w2 ⟨A2, c2, rfl, hr2, k2⟩; replace K2 := kept_trans K2 k2; replace y0 := kept_cell k2 y0; replace y1 := kept_cell k2 y1; replace v0 := kept_cell k2 v0; replace v1 := kept_cell k2 v1; replace v2 := kept_cell k2 v2))
    | (go_at_call 9; ((with_reducible refine (C9.out _ K2).mono ?_); rintro e w3 ⟨rfl, k3⟩; replace K2 := kept_trans K2 k3; replace y0 := kept_cell k3 y0; replace y1 := kept_cell k3 y1; replace v0 := kept_cell k3 v0; replace v1 := kept_cell k3 v1; replace v2 := kept_cell k3 v2; replace hr2 := hr2.kept k3)))
  go_cut [11, 12] (fun s11 s12 wx => s11 = .bool true ∧ s12 = .bool true ∧ Kept w3 wx)
  case first =>
    refine region_x (fun w' => Kept w3 w') [] (by kernel_rfl) (kept_drew (kept_refl _)) (fun hHeld => ?_)
    refine x_take (i := 0) (oi := { dst := some 43, op := Op.load 23 (Operand.tmp 3), type := 23, pos := "law.go:74", after := #[], guard := none }) (v := ?_) rfl (by kernel_rfl) (by kernel_rfl) (by kernel_rfl) (by kernel_rfl) (by kernel_rfl) (fun _ _ _ h => h) (Or.inl ⟨rfl, ?_⟩) (by assumption) ?_
    rotate_left
    · (intro w' hSw; replace y0 := kept_cell hSw y0; replace y1 := kept_cell hSw y1; replace v0 := kept_cell hSw v0; replace v1 := kept_cell hSw v1; go_simp; try with_reducible rfl)
    try simp only [Act.put, List.setIfInBounds_toArray, List.set_cons_zero, List.set_cons_succ]
    refine x_take (i := 1) (oi := { dst := some 44, op := Op.move (Operand.tmp 1), type := 3, pos := "law.go:74", after := #[], guard := none }) (v := ?_) rfl (by kernel_rfl) (by kernel_rfl) (by kernel_rfl) (by kernel_rfl) (by kernel_rfl) (fun _ _ _ h => h) (Or.inl ⟨rfl, ?_⟩) (by assumption) ?_
    rotate_left
    · (intro w' hSw; replace y0 := kept_cell hSw y0; replace y1 := kept_cell hSw y1; replace v0 := kept_cell hSw v0; replace v1 := kept_cell hSw v1; go_simp; try with_reducible rfl)
    try simp only [Act.put, List.setIfInBounds_toArray, List.set_cons_zero, List.set_cons_succ]
    refine x_take (i := 2) (oi := { dst := some 45, op := Op.fieldAddr 27 (Operand.tmp 5) 0, type := 0, pos := "law.go:74", after := #[], guard := none }) (v := ?_) rfl (by kernel_rfl) (by kernel_rfl) (by kernel_rfl) (by kernel_rfl) (by kernel_rfl) (fun _ _ _ h => h) (Or.inl ⟨rfl, ?_⟩) (by assumption) ?_
    rotate_left
    · (intro w' hSw; replace y0 := kept_cell hSw y0; replace y1 := kept_cell hSw y1; replace v0 := kept_cell hSw v0; replace v1 := kept_cell hSw v1; go_simp; try with_reducible rfl)
    try simp only [Act.put, List.setIfInBounds_toArray, List.set_cons_zero, List.set_cons_succ]
    refine x_take (i := 3) (oi := { dst := some 46, op := Op.load 25 (Operand.tmp 45), type := 25, pos := "law.go:74", after := #[{ on := 2, ground := Ground.data }], guard := none }) (v := ?_) rfl (by kernel_rfl) (by kernel_rfl) (by kernel_rfl) (by kernel_rfl) (by kernel_rfl) (fun _ _ _ h => h) (Or.inl ⟨rfl, ?_⟩) (by assumption) ?_
    rotate_left
    · (intro w' hSw; replace y0 := kept_cell hSw y0; replace y1 := kept_cell hSw y1; replace v0 := kept_cell hSw v0; replace v1 := kept_cell hSw v1; go_simp; try with_reducible rfl)
    try simp only [Act.put, List.setIfInBounds_toArray, List.set_cons_zero, List.set_cons_succ]
    refine x_take (i := 5) (oi := { dst := some 48, op := Op.load 23 (Operand.tmp 3), type := 23, pos := "law.go:74", after := #[], guard := none }) (v := ?_) rfl (by kernel_rfl) (by kernel_rfl) (by kernel_rfl) (by kernel_rfl) (by kernel_rfl) (fun _ _ _ h => h) (Or.inl ⟨rfl, ?_⟩) (by assumption) ?_
    rotate_left
    · (intro w' hSw; replace y0 := kept_cell hSw y0; replace y1 := kept_cell hSw y1; replace v0 := kept_cell hSw v0; replace v1 := kept_cell hSw v1; go_simp; try with_reducible rfl)
    try simp only [Act.put, List.setIfInBounds_toArray, List.set_cons_zero, List.set_cons_succ]
    refine x_take (i := 6) (oi := { dst := some 49, op := Op.move (Operand.tmp 1), type := 3, pos := "law.go:74", after := #[], guard := none }) (v := ?_) rfl (by kernel_rfl) (by kernel_rfl) (by kernel_rfl) (by kernel_rfl) (by kernel_rfl) (fun _ _ _ h => h) (Or.inl ⟨rfl, ?_⟩) (by assumption) ?_
    rotate_left
    · (intro w' hSw; replace y0 := kept_cell hSw y0; replace y1 := kept_cell hSw y1; replace v0 := kept_cell hSw v0; replace v1 := kept_cell hSw v1; go_simp; try with_reducible rfl)
    try simp only [Act.put, List.setIfInBounds_toArray, List.set_cons_zero, List.set_cons_succ]
    refine x_take (i := 7) (oi := { dst := some 50, op := Op.fieldAddr 27 (Operand.tmp 5) 1, type := 0, pos := "law.go:74", after := #[], guard := none }) (v := ?_) rfl (by kernel_rfl) (by kernel_rfl) (by kernel_rfl) (by kernel_rfl) (by kernel_rfl) (fun _ _ _ h => h) (Or.inl ⟨rfl, ?_⟩) (by assumption) ?_
    rotate_left
    · (intro w' hSw; replace y0 := kept_cell hSw y0; replace y1 := kept_cell hSw y1; replace v0 := kept_cell hSw v0; replace v1 := kept_cell hSw v1; go_simp; try with_reducible rfl)
    try simp only [Act.put, List.setIfInBounds_toArray, List.set_cons_zero, List.set_cons_succ]
    refine x_take (i := 8) (oi := { dst := some 51, op := Op.load 25 (Operand.tmp 50), type := 25, pos := "law.go:74", after := #[{ on := 7, ground := Ground.data }], guard := none }) (v := ?_) rfl (by kernel_rfl) (by kernel_rfl) (by kernel_rfl) (by kernel_rfl) (by kernel_rfl) (fun _ _ _ h => h) (Or.inl ⟨rfl, ?_⟩) (by assumption) ?_
    rotate_left
    · (intro w' hSw; replace y0 := kept_cell hSw y0; replace y1 := kept_cell hSw y1; replace v0 := kept_cell hSw v0; replace v1 := kept_cell hSw v1; go_simp; try with_reducible rfl)
    try simp only [Act.put, List.setIfInBounds_toArray, List.set_cons_zero, List.set_cons_succ]
    refine x_one (i := 4) (o := { dst := some 47, op := Op.call { callee := Callee.value (Operand.func 10), args := #[Operand.tmp 43, Operand.tmp 44, Operand.tmp 46], argTypes := #[23, 3, 25] }, type := 4, pos := "law.go:74", after := #[{ on := 0, ground := Ground.data }, { on := 1, ground := Ground.data }, { on := 3, ground := Ground.data }], guard := none }) (by kernel_rfl) rfl (fun K hK => ?_)
    (go_simp; go_at_call 10; (with_reducible refine (CP.out _ (kept_trans K2 hHeld)).mono ?_); rintro e w4 ⟨rfl, k4⟩; have G4 := kept_trans hHeld k4; try dsimp only)
    refine hK.out _ _ ?_ (fun hHeld => ?_)
    · (try dsimp only); repeat (first | assumption | exact kept_refl _ | refine kept_drew ?_ | refine kept_alloc ?_ _ | refine kept_set ?_ (by omega) _)
    clear hK K
    try simp only [Act.put, List.setIfInBounds_toArray, List.set_cons_zero, List.set_cons_succ]
    refine x_one (i := 9) (o := { dst := some 52, op := Op.call { callee := Callee.value (Operand.func 10), args := #[Operand.tmp 48, Operand.tmp 49, Operand.tmp 51], argTypes := #[23, 3, 25] }, type := 4, pos := "law.go:74", after := #[{ on := 5, ground := Ground.data }, { on := 6, ground := Ground.data }, { on := 8, ground := Ground.data }, { on := 4, ground := Ground.chain }], guard := none }) (by kernel_rfl) rfl (fun K hK => ?_)
    (go_simp; go_at_call 10; (with_reducible refine (CR.out _ (kept_trans K2 hHeld)).mono ?_); rintro e w5 ⟨rfl, k5⟩; have G5 := kept_trans hHeld k5; try dsimp only)
    refine hK.out _ _ ?_ (fun hHeld => ?_)
    · (try dsimp only); repeat (first | assumption | exact kept_refl _ | refine kept_drew ?_ | refine kept_alloc ?_ _ | refine kept_set ?_ (by omega) _)
    clear hK K
    try simp only [Act.put, List.setIfInBounds_toArray, List.set_cons_zero, List.set_cons_succ]
    refine x_take (i := 10) (oi := { dst := some 11, op := Op.assign (Operand.tmp 47), type := 4, pos := "law.go:74", after := #[{ on := 4, ground := Ground.data }, { on := 9, ground := Ground.chain }, { on := 0, ground := Ground.phase }, { on := 1, ground := Ground.phase }, { on := 2, ground := Ground.phase }, { on := 3, ground := Ground.phase }, { on := 4, ground := Ground.phase }, { on := 5, ground := Ground.textOnly Departure.lateStores }, { on := 6, ground := Ground.textOnly Departure.lateStores }, { on := 7, ground := Ground.textOnly Departure.lateStores }, { on := 8, ground := Ground.textOnly Departure.lateStores }, { on := 9, ground := Ground.textOnly Departure.lateStoresUnsure }], guard := none }) (v := ?_) rfl (by kernel_rfl) (by kernel_rfl) (by kernel_rfl) (by kernel_rfl) (by kernel_rfl) (fun _ _ _ h => h) (Or.inl ⟨rfl, ?_⟩) (by assumption) ?_
    rotate_left
    · (intro w' hSw; replace y0 := kept_cell hSw y0; replace y1 := kept_cell hSw y1; replace v0 := kept_cell hSw v0; replace v1 := kept_cell hSw v1; go_simp; try with_reducible rfl)
    try simp only [Act.put, List.setIfInBounds_toArray, List.set_cons_zero, List.set_cons_succ]
    refine x_take (i := 11) (oi := { dst := some 12, op := Op.assign (Operand.tmp 52), type := 4, pos := "law.go:74", after := #[{ on := 9, ground := Ground.data }, { on := 10, ground := Ground.chain }, { on := 0, ground := Ground.phase }, { on := 1, ground := Ground.phase }, { on := 2, ground := Ground.phase }, { on := 3, ground := Ground.phase }, { on := 4, ground := Ground.phase }, { on := 5, ground := Ground.phase }, { on := 6, ground := Ground.phase }, { on := 7, ground := Ground.phase }, { on := 8, ground := Ground.phase }, { on := 9, ground := Ground.phase }, { on := 10, ground := Ground.phase }], guard := none }) (v := ?_) rfl (by kernel_rfl) (by kernel_rfl) (by kernel_rfl) (by kernel_rfl) (by kernel_rfl) (fun _ _ _ h => h) (Or.inl ⟨rfl, ?_⟩) (by assumption) ?_
    rotate_left
    · (intro w' hSw; replace y0 := kept_cell hSw y0; replace y1 := kept_cell hSw y1; replace v0 := kept_cell hSw v0; replace v1 := kept_cell hSw v1; go_simp; try with_reducible rfl)
    try simp only [Act.put, List.setIfInBounds_toArray, List.set_cons_zero, List.set_cons_succ]
    refine x_done (by kernel_rfl) ?_ _
    (go_wp2_with fail; go_meet; exact ⟨rfl, rfl, by assumption⟩)
  case rest =>
    obtain ⟨rfl, rfl, KX⟩ := hcut
    replace K2 := kept_trans K2 KX; replace y0 := kept_cell KX y0; replace y1 := kept_cell KX y1; replace v0 := kept_cell KX v0; replace v1 := kept_cell KX v1; replace v2 := kept_cell KX v2; replace hr2 := hr2.kept KX
    go_upto_region 9 with (go_at_call 12; ((with_reducible refine (C12.out _).mono ?_); rintro e w5 ⟨rfl, k5⟩; replace K2 := kept_trans K2 k5; replace y0 := kept_cell k5 y0; replace y1 := kept_cell k5 y1; replace v0 := kept_cell k5 v0; replace v1 := kept_cell k5 v1; replace v2 := kept_cell k5 v2; replace hr2 := hr2.kept k5))
    obtain ⟨w6, hw6⟩ : ∃ w6, w6 = w5.alloc (.cells #[.int .i64 P, .int .i64 M, .int .i64 q, .int .i64 km] 37) := ⟨_, rfl⟩
    rw [← hw6]
    have o13 : Own w6 w5.heap.size 37 [.int .i64 P, .int .i64 M, .int .i64 q, .int .i64 km] := by rw [hw6]; exact Own.new w5 37 _
    have k6 : Kept w5 w6 := by rw [hw6]; exact kept_alloc (kept_refl w5) _
    have z0 := o13.cell (j := 0) rfl; have z1 := o13.cell (j := 1) rfl; have z2 := o13.cell (j := 2) rfl; have z3 := o13.cell (j := 3) rfl
    replace K2 := kept_trans K2 k6; replace y0 := kept_cell k6 y0; replace y1 := kept_cell k6 y1; replace v0 := kept_cell k6 v0; replace v1 := kept_cell k6 v1; replace v2 := kept_cell k6 v2; replace hr2 := hr2.kept k6
    clear hw6
    go_wp2_with (first
      | (go_at_call 13; ((with_reducible refine (C13.out _).mono ?_); rintro e w7 ⟨rfl, k7⟩; replace K2 := kept_trans K2 k7; replace y0 := kept_cell k7 y0; replace y1 := kept_cell k7 y1; replace v0 := kept_cell k7 v0; replace v1 := kept_cell k7 v1; replace v2 := kept_cell k7 v2; replace z0 := kept_cell k7 z0; replace z1 := kept_cell k7 z1; replace z2 := kept_cell k7 z2; replace z3 := kept_cell k7 z3; replace hr2 := hr2.kept k7))
      | (go_at_call 11; ((with_reducible refine (C11a.out _).mono ?_); rintro e w10 ⟨rfl, k10⟩; replace K2 := kept_trans K2 k10; replace y0 := kept_cell k10 y0; replace y1 := kept_cell k10 y1; replace v0 := kept_cell k10 v0; replace v1 := kept_cell k10 v1; replace v2 := kept_cell k10 v2; replace z0 := kept_cell k10 z0; replace z1 := kept_cell k10 z1; replace z2 := kept_cell k10 z2; replace z3 := kept_cell k10 z3; replace hr2 := hr2.kept k10))
      | (go_at_call 15; ((with_reducible refine (C15.out _ K2).mono ?_); rintro e w11 ⟨A11, c11, rfl, hr11, k11⟩; replace K2 := kept_trans K2 k11; replace hr2 := hr2.kept k11))
      | (go_at_call 11; ((with_reducible refine (C11b.out _ _ _ _ _ hr2 hr11).mono ?_); rintro e w12 ⟨rfl, k12⟩; replace K2 := kept_trans K2 k12))
      | (go_at_call 7; ((with_reducible refine (C7.out _ K2).mono ?_); rintro e w9 ⟨rfl, k9⟩; replace K2 := kept_trans K2 k9)))
    go_ret
    exact ⟨rfl, K2⟩
set_option maxRecDepth 100000 in
set_option maxHeartbeats 1000000 in
theorem law3_out_one (P M n : Int) (p : List Tm) (A : Option Addr) (c : Nat) (r : List Tm) (B : Option Addr) (d : Nat) (z : Int) (w : World) (hp : PowOk w) (hP : RP w A p) (hl : p.length ≤ 140737488355328) (hR : RP w B r) (hl2 : r.length ≤ 140737488355328) (hf : fewB 1500 [p, r] = true) (hv : vld (ordF P M) n p = true) (hv2 : vld (ordF P M) n r = false) (hx : ¬ (0 ≤ z ∧ z < ordF P M)) :
    Calls Tryz.prog 3 #[fV P M, .int .i64 n, .agg #[.slice A p.length c, .slice B r.length d, .int .i64 z]] w fun e w' => e = .returned (.bool true) ∧ Kept w w' := by
  have K0 := kept_alloc (kept_refl w) (.cells #[.int .i64 P, .int .i64 M] 23)
  have K1 := kept_alloc K0 (.cells #[.slice A p.length c, .slice B r.length d, .int .i64 z] 27)
  have o3 := (Own.new w 23 [.int .i64 P, .int .i64 M]).alloc (.cells #[.slice A p.length c, .slice B r.length d, .int .i64 z] 27)
  have o5 := Own.new (w.alloc (.cells #[.int .i64 P, .int .i64 M] 23)) 27 [.slice A p.length c, .slice B r.length d, .int .i64 z]
  obtain ⟨w0, hw0⟩ : ∃ w0, w0 = (w.alloc (.cells #[.int .i64 P, .int .i64 M] 23)).alloc (.cells #[.slice A p.length c, .slice B r.length d, .int .i64 z] 27) := ⟨_, rfl⟩
  have hz0 : (w.alloc (.cells #[.int .i64 P, .int .i64 M] 23)).heap.size = w.heap.size + 1 := by simp
  rw [hz0] at o5
  have o5' : Own w0 (w.heap.size + 1) 27 [.slice A p.length c, .slice B r.length d, .int .i64 z] := by rw [hw0]; exact o5
  rw [← hw0] at K1 o3
  have HW0 := Lib.hid hw0
  have C6 := Lib.hid (few12_any 1500 [p, r] (some ⟨w0.heap.size, 0, none⟩) 2 (w0.alloc (.cells #[.slice A p.length c, .slice B r.length d] 25)) (by decide) (by decide) (rpp_two (hP.kept K1) (hR.kept K1) hl hl2) (by simp))
  rw [show ([p, r] : List (List Tm)).length = 2 from rfl] at C6
  have C7 := Lib.hid fun w' (k : Kept w w') => alive13_any w' (hp.kept k)
  have CP := Lib.hid fun w' (k : Kept w w') => rvalid15_all P M n p A c w' (hP.kept k) hl
  have CR := Lib.hid fun w' (k : Kept w w') => rvalid15_all P M n r B d w' (hR.kept k) hl2
  have K2 := kept_alloc K1 (.cells #[.slice A p.length c, .slice B r.length d] 25)
  have o3' := o3.alloc (.cells #[.slice A p.length c, .slice B r.length d] 25)
  have o5'' := o5'.alloc (.cells #[.slice A p.length c, .slice B r.length d] 25)
  clear o5 hz0 hw0
  rw [hf] at C6
  obtain ⟨hn, hlp, tp⟩ := vld_terms hv
  have ok := vld_ok hv
  have C12 := Lib.hid fun w' => of18_any P M w' ok
  have C13 := Lib.hid fun w' => is33_any P M z w'
  have C8 := Lib.hid fun w' (k : Kept w w') => add8_bad P M n p r A B c d w' (hP.kept k) (hR.kept k) hl hl2 (.inr hv2)
  have C11b := Lib.hid fun w' => is16_err 1 none none 0 0 0 w' (by decide)
  unfold PairErr at C8
  have C9 := Lib.hid fun w' (k : Kept w w') => scale9_arg P M n z p A c w' (hP.kept k) hl hv hx
  have C11a := Lib.hid fun w' => is16_err 2 none none 0 0 0 w' (by decide)
  unfold PairErr at C9
  rw [show (decide (0 ≤ z) && decide (z < ordF P M)) = false by
    rw [← Bool.decide_and]
    exact decide_eq_false hx] at C13
  rw [hv] at CP
  rw [hv2] at CR
  unfold fV kV at *
  obtain ⟨q, hqq⟩ : ∃ q, q = ordF P M := ⟨_, rfl⟩
  obtain ⟨km, hkm⟩ : ∃ km, km = kitM M := ⟨_, rfl⟩
  rw [← hqq, ← hkm] at C12 C13
  clear hP hf hp hR hv hv2 hx tp hlp hn ok hqq hkm
  go_enter Tryz.func3, Tryz.ntmps3
  go_upto_region 1 with fail
  rw [← HW0.out]
  have x0 := o5'.cell (j := 0) rfl; have x1 := o5'.cell (j := 1) rfl
  go_upto_region 5 with (first
    | (go_at_call 6; ((with_reducible refine C6.out.mono ?_); rintro e w1 ⟨rfl, rfl⟩; have y0 := o3'.cell (j := 0) rfl; have y1 := o3'.cell (j := 1) rfl; have v0 := o5''.cell (j := 0) rfl; have v1 := o5''.cell (j := 1) rfl; have v2 := o5''.cell (j := 2) rfl))
    | (go_at_call 8; ((with_reducible refine (C8.out _ K2).mono ?_); rintro e w2 ⟨rfl, k2⟩; replace K2 := kept_trans K2 k2; replace y0 := kept_cell k2 y0; replace y1 := kept_cell k2 y1; replace v0 := kept_cell k2 v0; replace v1 := kept_cell k2 v1; replace v2 := kept_cell k2 v2))
    | (go_at_call 9; ((with_reducible refine (C9.out _ K2).mono ?_); rintro e w3 ⟨rfl, k3⟩; replace K2 := kept_trans K2 k3; replace y0 := kept_cell k3 y0; replace y1 := kept_cell k3 y1; replace v0 := kept_cell k3 v0; replace v1 := kept_cell k3 v1; replace v2 := kept_cell k3 v2)))
  go_cut [11, 12] (fun s11 s12 wx => s11 = .bool true ∧ s12 = .bool false ∧ Kept w3 wx)
  case first =>
    refine region_x (fun w' => Kept w3 w') [] (by kernel_rfl) (kept_drew (kept_refl _)) (fun hHeld => ?_)
    refine x_take (i := 0) (oi := { dst := some 43, op := Op.load 23 (Operand.tmp 3), type := 23, pos := "law.go:74", after := #[], guard := none }) (v := ?_) rfl (by kernel_rfl) (by kernel_rfl) (by kernel_rfl) (by kernel_rfl) (by kernel_rfl) (fun _ _ _ h => h) (Or.inl ⟨rfl, ?_⟩) (by assumption) ?_
    rotate_left
    · (intro w' hSw; replace y0 := kept_cell hSw y0; replace y1 := kept_cell hSw y1; replace v0 := kept_cell hSw v0; replace v1 := kept_cell hSw v1; go_simp; try with_reducible rfl)
    try simp only [Act.put, List.setIfInBounds_toArray, List.set_cons_zero, List.set_cons_succ]
    refine x_take (i := 1) (oi := { dst := some 44, op := Op.move (Operand.tmp 1), type := 3, pos := "law.go:74", after := #[], guard := none }) (v := ?_) rfl (by kernel_rfl) (by kernel_rfl) (by kernel_rfl) (by kernel_rfl) (by kernel_rfl) (fun _ _ _ h => h) (Or.inl ⟨rfl, ?_⟩) (by assumption) ?_
    rotate_left
    · (intro w' hSw; replace y0 := kept_cell hSw y0; replace y1 := kept_cell hSw y1; replace v0 := kept_cell hSw v0; replace v1 := kept_cell hSw v1; go_simp; try with_reducible rfl)
    try simp only [Act.put, List.setIfInBounds_toArray, List.set_cons_zero, List.set_cons_succ]
    refine x_take (i := 2) (oi := { dst := some 45, op := Op.fieldAddr 27 (Operand.tmp 5) 0, type := 0, pos := "law.go:74", after := #[], guard := none }) (v := ?_) rfl (by kernel_rfl) (by kernel_rfl) (by kernel_rfl) (by kernel_rfl) (by kernel_rfl) (fun _ _ _ h => h) (Or.inl ⟨rfl, ?_⟩) (by assumption) ?_
    rotate_left
    · (intro w' hSw; replace y0 := kept_cell hSw y0; replace y1 := kept_cell hSw y1; replace v0 := kept_cell hSw v0; replace v1 := kept_cell hSw v1; go_simp; try with_reducible rfl)
    try simp only [Act.put, List.setIfInBounds_toArray, List.set_cons_zero, List.set_cons_succ]
    refine x_take (i := 3) (oi := { dst := some 46, op := Op.load 25 (Operand.tmp 45), type := 25, pos := "law.go:74", after := #[{ on := 2, ground := Ground.data }], guard := none }) (v := ?_) rfl (by kernel_rfl) (by kernel_rfl) (by kernel_rfl) (by kernel_rfl) (by kernel_rfl) (fun _ _ _ h => h) (Or.inl ⟨rfl, ?_⟩) (by assumption) ?_
    rotate_left
    · (intro w' hSw; replace y0 := kept_cell hSw y0; replace y1 := kept_cell hSw y1; replace v0 := kept_cell hSw v0; replace v1 := kept_cell hSw v1; go_simp; try with_reducible rfl)
    try simp only [Act.put, List.setIfInBounds_toArray, List.set_cons_zero, List.set_cons_succ]
    refine x_take (i := 5) (oi := { dst := some 48, op := Op.load 23 (Operand.tmp 3), type := 23, pos := "law.go:74", after := #[], guard := none }) (v := ?_) rfl (by kernel_rfl) (by kernel_rfl) (by kernel_rfl) (by kernel_rfl) (by kernel_rfl) (fun _ _ _ h => h) (Or.inl ⟨rfl, ?_⟩) (by assumption) ?_
    rotate_left
    · (intro w' hSw; replace y0 := kept_cell hSw y0; replace y1 := kept_cell hSw y1; replace v0 := kept_cell hSw v0; replace v1 := kept_cell hSw v1; go_simp; try with_reducible rfl)
    try simp only [Act.put, List.setIfInBounds_toArray, List.set_cons_zero, List.set_cons_succ]
    refine x_take (i := 6) (oi := { dst := some 49, op := Op.move (Operand.tmp 1), type := 3, pos := "law.go:74", after := #[], guard := none }) (v := ?_) rfl (by kernel_rfl) (by kernel_rfl) (by kernel_rfl) (by kernel_rfl) (by kernel_rfl) (fun _ _ _ h => h) (Or.inl ⟨rfl, ?_⟩) (by assumption) ?_
    rotate_left
    · (intro w' hSw; replace y0 := kept_cell hSw y0; replace y1 := kept_cell hSw y1; replace v0 := kept_cell hSw v0; replace v1 := kept_cell hSw v1; go_simp; try with_reducible rfl)
    try simp only [Act.put, List.setIfInBounds_toArray, List.set_cons_zero, List.set_cons_succ]
    refine x_take (i := 7) (oi := { dst := some 50, op := Op.fieldAddr 27 (Operand.tmp 5) 1, type := 0, pos := "law.go:74", after := #[], guard := none }) (v := ?_) rfl (by kernel_rfl) (by kernel_rfl) (by kernel_rfl) (by kernel_rfl) (by kernel_rfl) (fun _ _ _ h => h) (Or.inl ⟨rfl, ?_⟩) (by assumption) ?_
    rotate_left
    · (intro w' hSw; replace y0 := kept_cell hSw y0; replace y1 := kept_cell hSw y1; replace v0 := kept_cell hSw v0; replace v1 := kept_cell hSw v1; go_simp; try with_reducible rfl)
    try simp only [Act.put, List.setIfInBounds_toArray, List.set_cons_zero, List.set_cons_succ]
    refine x_take (i := 8) (oi := { dst := some 51, op := Op.load 25 (Operand.tmp 50), type := 25, pos := "law.go:74", after := #[{ on := 7, ground := Ground.data }], guard := none }) (v := ?_) rfl (by kernel_rfl) (by kernel_rfl) (by kernel_rfl) (by kernel_rfl) (by kernel_rfl) (fun _ _ _ h => h) (Or.inl ⟨rfl, ?_⟩) (by assumption) ?_
    rotate_left
    · (intro w' hSw; replace y0 := kept_cell hSw y0; replace y1 := kept_cell hSw y1; replace v0 := kept_cell hSw v0; replace v1 := kept_cell hSw v1; go_simp; try with_reducible rfl)
    try simp only [Act.put, List.setIfInBounds_toArray, List.set_cons_zero, List.set_cons_succ]
    refine x_one (i := 4) (o := { dst := some 47, op := Op.call { callee := Callee.value (Operand.func 10), args := #[Operand.tmp 43, Operand.tmp 44, Operand.tmp 46], argTypes := #[23, 3, 25] }, type := 4, pos := "law.go:74", after := #[{ on := 0, ground := Ground.data }, { on := 1, ground := Ground.data }, { on := 3, ground := Ground.data }], guard := none }) (by kernel_rfl) rfl (fun K hK => ?_)
    (go_simp; go_at_call 10; (with_reducible refine (CP.out _ (kept_trans K2 hHeld)).mono ?_); rintro e w4 ⟨rfl, k4⟩; have G4 := kept_trans hHeld k4; try dsimp only)
    refine hK.out _ _ ?_ (fun hHeld => ?_)
    · (try dsimp only); repeat (first | assumption | exact kept_refl _ | refine kept_drew ?_ | refine kept_alloc ?_ _ | refine kept_set ?_ (by omega) _)
    clear hK K
    try simp only [Act.put, List.setIfInBounds_toArray, List.set_cons_zero, List.set_cons_succ]
    refine x_one (i := 9) (o := { dst := some 52, op := Op.call { callee := Callee.value (Operand.func 10), args := #[Operand.tmp 48, Operand.tmp 49, Operand.tmp 51], argTypes := #[23, 3, 25] }, type := 4, pos := "law.go:74", after := #[{ on := 5, ground := Ground.data }, { on := 6, ground := Ground.data }, { on := 8, ground := Ground.data }, { on := 4, ground := Ground.chain }], guard := none }) (by kernel_rfl) rfl (fun K hK => ?_)
    (go_simp; go_at_call 10; (with_reducible refine (CR.out _ (kept_trans K2 hHeld)).mono ?_); rintro e w5 ⟨rfl, k5⟩; have G5 := kept_trans hHeld k5; try dsimp only)
    refine hK.out _ _ ?_ (fun hHeld => ?_)
    · (try dsimp only); repeat (first | assumption | exact kept_refl _ | refine kept_drew ?_ | refine kept_alloc ?_ _ | refine kept_set ?_ (by omega) _)
    clear hK K
    try simp only [Act.put, List.setIfInBounds_toArray, List.set_cons_zero, List.set_cons_succ]
    refine x_take (i := 10) (oi := { dst := some 11, op := Op.assign (Operand.tmp 47), type := 4, pos := "law.go:74", after := #[{ on := 4, ground := Ground.data }, { on := 9, ground := Ground.chain }, { on := 0, ground := Ground.phase }, { on := 1, ground := Ground.phase }, { on := 2, ground := Ground.phase }, { on := 3, ground := Ground.phase }, { on := 4, ground := Ground.phase }, { on := 5, ground := Ground.textOnly Departure.lateStores }, { on := 6, ground := Ground.textOnly Departure.lateStores }, { on := 7, ground := Ground.textOnly Departure.lateStores }, { on := 8, ground := Ground.textOnly Departure.lateStores }, { on := 9, ground := Ground.textOnly Departure.lateStoresUnsure }], guard := none }) (v := ?_) rfl (by kernel_rfl) (by kernel_rfl) (by kernel_rfl) (by kernel_rfl) (by kernel_rfl) (fun _ _ _ h => h) (Or.inl ⟨rfl, ?_⟩) (by assumption) ?_
    rotate_left
    · (intro w' hSw; replace y0 := kept_cell hSw y0; replace y1 := kept_cell hSw y1; replace v0 := kept_cell hSw v0; replace v1 := kept_cell hSw v1; go_simp; try with_reducible rfl)
    try simp only [Act.put, List.setIfInBounds_toArray, List.set_cons_zero, List.set_cons_succ]
    refine x_take (i := 11) (oi := { dst := some 12, op := Op.assign (Operand.tmp 52), type := 4, pos := "law.go:74", after := #[{ on := 9, ground := Ground.data }, { on := 10, ground := Ground.chain }, { on := 0, ground := Ground.phase }, { on := 1, ground := Ground.phase }, { on := 2, ground := Ground.phase }, { on := 3, ground := Ground.phase }, { on := 4, ground := Ground.phase }, { on := 5, ground := Ground.phase }, { on := 6, ground := Ground.phase }, { on := 7, ground := Ground.phase }, { on := 8, ground := Ground.phase }, { on := 9, ground := Ground.phase }, { on := 10, ground := Ground.phase }], guard := none }) (v := ?_) rfl (by kernel_rfl) (by kernel_rfl) (by kernel_rfl) (by kernel_rfl) (by kernel_rfl) (fun _ _ _ h => h) (Or.inl ⟨rfl, ?_⟩) (by assumption) ?_
    rotate_left
    · (intro w' hSw; replace y0 := kept_cell hSw y0; replace y1 := kept_cell hSw y1; replace v0 := kept_cell hSw v0; replace v1 := kept_cell hSw v1; go_simp; try with_reducible rfl)
    try simp only [Act.put, List.setIfInBounds_toArray, List.set_cons_zero, List.set_cons_succ]
    refine x_done (by kernel_rfl) ?_ _
    (go_wp2_with fail; go_meet; exact ⟨rfl, rfl, by assumption⟩)
  case rest =>
    obtain ⟨rfl, rfl, KX⟩ := hcut
    replace K2 := kept_trans K2 KX; replace y0 := kept_cell KX y0; replace y1 := kept_cell KX y1; replace v0 := kept_cell KX v0; replace v1 := kept_cell KX v1; replace v2 := kept_cell KX v2
    go_upto_region 9 with (go_at_call 12; ((with_reducible refine (C12.out _).mono ?_); rintro e w5 ⟨rfl, k5⟩; replace K2 := kept_trans K2 k5; replace y0 := kept_cell k5 y0; replace y1 := kept_cell k5 y1; replace v0 := kept_cell k5 v0; replace v1 := kept_cell k5 v1; replace v2 := kept_cell k5 v2))
    obtain ⟨w6, hw6⟩ : ∃ w6, w6 = w5.alloc (.cells #[.int .i64 P, .int .i64 M, .int .i64 q, .int .i64 km] 37) := ⟨_, rfl⟩
    rw [← hw6]
    have o13 : Own w6 w5.heap.size 37 [.int .i64 P, .int .i64 M, .int .i64 q, .int .i64 km] := by rw [hw6]; exact Own.new w5 37 _
    have k6 : Kept w5 w6 := by rw [hw6]; exact kept_alloc (kept_refl w5) _
    have z0 := o13.cell (j := 0) rfl; have z1 := o13.cell (j := 1) rfl; have z2 := o13.cell (j := 2) rfl; have z3 := o13.cell (j := 3) rfl
    replace K2 := kept_trans K2 k6; replace y0 := kept_cell k6 y0; replace y1 := kept_cell k6 y1; replace v0 := kept_cell k6 v0; replace v1 := kept_cell k6 v1; replace v2 := kept_cell k6 v2
    clear hw6
    go_wp2_with (first
      | (go_at_call 13; ((with_reducible refine (C13.out _).mono ?_); rintro e w7 ⟨rfl, k7⟩; replace K2 := kept_trans K2 k7; replace y0 := kept_cell k7 y0; replace y1 := kept_cell k7 y1; replace v0 := kept_cell k7 v0; replace v1 := kept_cell k7 v1; replace v2 := kept_cell k7 v2; replace z0 := kept_cell k7 z0; replace z1 := kept_cell k7 z1; replace z2 := kept_cell k7 z2; replace z3 := kept_cell k7 z3))
      | (go_at_call 11; ((with_reducible refine (C11a.out _).mono ?_); rintro e w10 ⟨rfl, k10⟩; replace K2 := kept_trans K2 k10; replace y0 := kept_cell k10 y0; replace y1 := kept_cell k10 y1; replace v0 := kept_cell k10 v0; replace v1 := kept_cell k10 v1; replace v2 := kept_cell k10 v2; replace z0 := kept_cell k10 z0; replace z1 := kept_cell k10 z1; replace z2 := kept_cell k10 z2; replace z3 := kept_cell k10 z3))
      | (go_at_call 11; ((with_reducible refine (C11b.out _).mono ?_); rintro e w12 ⟨rfl, k12⟩; replace K2 := kept_trans K2 k12))
      | (go_at_call 7; ((with_reducible refine (C7.out _ K2).mono ?_); rintro e w9 ⟨rfl, k9⟩; replace K2 := kept_trans K2 k9)))
    go_ret
    exact ⟨rfl, K2⟩
theorem law3_any (P M n : Int) (p : List Tm) (A : Option Addr) (c : Nat) (r : List Tm) (B : Option Addr) (d : Nat) (z : Int) (w : World) (hp : PowOk w) (hP : RP w A p) (hl : p.length ≤ 140737488355328) (hR : RP w B r) (hl2 : r.length ≤ 140737488355328) :
    Calls Tryz.prog 3 #[fV P M, .int .i64 n, .agg #[.slice A p.length c, .slice B r.length d, .int .i64 z]] w fun e w' => e = .returned (.bool true) ∧ Kept w w' := by
  cases hf : fewB 1500 [p, r] with
  | false => exact law3_few P M n p A c r B d z w hp hP hl hR hl2 hf
  | true =>
    cases hv : vld (ordF P M) n p with
    | false => exact law3_bad P M n p A c r B d z w hp hP hl hR hl2 hf hv
    | true =>
      by_cases hx : 0 ≤ z ∧ z < ordF P M
      · cases hv2 : vld (ordF P M) n r with
        | true => exact law3_in_two P M n p A c r B d z w hp hP hl hR hl2 hf hv hv2 hx
        | false => exact law3_in_one P M n p A c r B d z w hp hP hl hR hl2 hf hv hv2 hx
      · cases hv2 : vld (ordF P M) n r with
        | true => exact law3_out_two P M n p A c r B d z w hp hP hl hR hl2 hf hv hv2 hx
        | false => exact law3_out_one P M n p A c r B d z w hp hP hl hR hl2 hf hv hv2 hx
end Go.Proofs.YtnjmpjdampdmmaaGreatDoor
