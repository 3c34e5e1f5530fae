/- The law BranchOwn: the walk where all is small. -/
import Derived.Test.YtinpmdekdfgiiaaU3
import Derived.Test.YtinpmdekdfgiiaaU4a
set_option linter.unusedVariables false
set_option linter.unusedSimpArgs false
namespace Go.Proofs.Ytinpmdekdfgiiaa
open Go.RowKit

set_option maxRecDepth 100000 in
set_option maxHeartbeats 8000000 in
theorem law_own_d (i s : Int) (A : Option Addr) (c : Nat) (l : List Nd) (f : Fm) (B : Option Addr) (d : Nat) (X : Option Addr) (cx : Nat) (x : List Bool) (w : World) (hm : l.length ≤ 140737488355328) (hr : RN w A l) (hf : RK w B f.l) (hfl : f.l.length ≤ 9223372036854775807) (hxl : x.length ≤ 140737488355328) (hx : Rd w X (bools x)) (hn : (l.length : Int) ≤ 100) (h60 : (cntF f : Int) ≤ 60) (h100 : x.length ≤ 100) :
    Calls Try.prog 12 #[.agg #[.int .i64 i, .int .i64 s, .slice A l.length c], .agg #[.int .i64 f.k, .int .i64 f.n, .slice B f.l.length d], .slice X x.length cx] w fun e w' => e = .returned (.bool true) ∧ Kept w w' := by
  have o0 := (Own.new w 24 [.int .i64 i, .int .i64 s, .slice A l.length c]).alloc (.cells #[.int .i64 f.k, .int .i64 f.n, .slice B f.l.length d] 52)
  have o1 := Own.new (w.alloc (.cells #[.int .i64 i, .int .i64 s, .slice A l.length c] 24)) 52 [.int .i64 f.k, .int .i64 f.n, .slice B f.l.length d]
  simp only [World.size_alloc] at o1
  have K0 : Kept w ((w.alloc (.cells #[.int .i64 i, .int .i64 s, .slice A l.length c] 24)).alloc (.cells #[.int .i64 f.k, .int .i64 f.n, .slice B f.l.length d] 52)) := kept_alloc (kept_alloc (kept_refl w) _) _
  have q0 := o0.cell (j := 0) rfl; have q1 := o0.cell (j := 1) rfl; have q2 := o0.cell (j := 2) rfl
  have r0 := o1.cell (j := 0) rfl; have r1 := o1.cell (j := 1) rfl; have r2 := o1.cell (j := 2) rfl
  have hF := fun (w' : World) => few_any i s A c l 100 w' hm
  rw [decide_eq_true hn] at hF
  have F13 := Lib.hid hF
  have F35 := Lib.hid (own_few f B d w true (decide_eq_true h60) hf hfl)
  have b1 : decide ((100 : Int) < (x.length : Int)) = false := decide_eq_false (by omega)
  have b2 : decide (100 < x.length) = false := decide_eq_false (by omega)
  obtain ⟨nx, hnx⟩ : ∃ m, m = x.length := ⟨_, rfl⟩
  rw [← hnx] at b1 b2 h100 ⊢
  have HNX := Lib.hid hnx; clear hnx hxl
  have HR := Lib.hid hr; have HF := Lib.hid hf; have HX := Lib.hid hx
  have HN := Lib.hid hn; have H60 := Lib.hid h60
  have C48 := Lib.hid fun (w' : World) (k : Kept w w') => copied48_any i s A c l w' (by omega) (hr.kept k)
  have C49 := fun (w' : World) (k : Kept w w') => copy49_any (cntF f) f B d w' (Nat.le_refl _) (by omega) hfl (hf.kept k)
  unfold fmV at C49
  replace C49 := Lib.hid C49
  clear hF hr hf hx hn h60
  go_enter Try.func12, Try.ntmps12
  go_wp2_with fail
  (with_reducible refine (F13.out _).mono ?_)
  rintro e w1 ⟨rfl, k⟩
  replace K0 := kept_trans K0 k; replace o0 := o0.kept k; replace o1 := o1.kept k
  clear q0 q1 q2 r0 r1 r2 k
  have q0 := o0.cell (j := 0) rfl; have q1 := o0.cell (j := 1) rfl; have q2 := o0.cell (j := 2) rfl; have r0 := o1.cell (j := 0) rfl; have r1 := o1.cell (j := 1) rfl; have r2 := o1.cell (j := 2) rfl
  go_wp2_with fail
  have oS := Own.new w1 52 [.int .i64 f.k, .int .i64 f.n, .slice B f.l.length d]
  replace K0 := kept_alloc K0 (.cells #[.int .i64 f.k, .int .i64 f.n, .slice B f.l.length d] 52); replace o0 := o0.alloc (.cells #[.int .i64 f.k, .int .i64 f.n, .slice B f.l.length d] 52); replace o1 := o1.alloc (.cells #[.int .i64 f.k, .int .i64 f.n, .slice B f.l.length d] 52)
  (with_reducible refine (F35.out _ _ K0 oS).mono ?_)
  rintro e w2 ⟨rfl, k⟩
  replace K0 := kept_trans K0 k; replace o0 := o0.kept k; replace o1 := o1.kept k
  clear q0 q1 q2 r0 r1 r2 k
  have q0 := o0.cell (j := 0) rfl; have q1 := o0.cell (j := 1) rfl; have q2 := o0.cell (j := 2) rfl; have r0 := o1.cell (j := 0) rfl; have r1 := o1.cell (j := 1) rfl; have r2 := o1.cell (j := 2) rfl
  go_wp2_with fail
  go_upto_region 3 with (fail)
  go_cut [7, 8, 9] (fun s7 s8 s9 wx => ∃ (g7 g8 : Nat) (A7 A8 A9 : Option Addr) (c7 c8 c9 : Nat), s7 = .pointer (some ⟨g7, 0, none⟩) ∧ s8 = .pointer (some ⟨g8, 0, none⟩) ∧ s9 = .slice A9 nx c9 ∧ Kept w2 wx ∧ Own wx g7 24 [.int .i64 i, .int .i64 s, .slice A7 l.length c7] ∧ RN wx A7 l ∧ Own wx g8 52 [.int .i64 f.k, .int .i64 f.n, .slice A8 f.l.length c8] ∧ RK wx A8 f.l ∧ Rd wx A9 (bools x))
  case first =>
    refine region_x (fun w' => Kept w2 w') [] (by kernel_rfl) (kept_drew (kept_refl _)) (fun hHeld => ?_)
    refine x_take (i := 0) (oi := { dst := some 40, op := Op.load 24 (Operand.tmp 3), type := 24, pos := "law.go:248", after := #[], guard := none }) (v := ?_) rfl (by kernel_rfl) (by kernel_rfl) (by kernel_rfl) (by kernel_rfl) (by kernel_rfl) (fun _ _ _ h => h) (Or.inl ⟨rfl, ?_⟩) (by assumption) ?_
    rotate_left
    · (intro w' hSw; replace q0 := kept_cell hSw q0; replace q1 := kept_cell hSw q1; replace q2 := kept_cell hSw q2; replace r0 := kept_cell hSw r0; replace r1 := kept_cell hSw r1; replace r2 := kept_cell hSw r2; go_simp; try with_reducible rfl)
    try simp only [Act.put, List.setIfInBounds_toArray, List.set_cons_zero, List.set_cons_succ]
    refine x_take (i := 2) (oi := { dst := some 42, op := Op.load 52 (Operand.tmp 4), type := 52, pos := "law.go:248", after := #[], guard := none }) (v := ?_) rfl (by kernel_rfl) (by kernel_rfl) (by kernel_rfl) (by kernel_rfl) (by kernel_rfl) (fun _ _ _ h => h) (Or.inl ⟨rfl, ?_⟩) (by assumption) ?_
    rotate_left
    · (intro w' hSw; replace q0 := kept_cell hSw q0; replace q1 := kept_cell hSw q1; replace q2 := kept_cell hSw q2; replace r0 := kept_cell hSw r0; replace r1 := kept_cell hSw r1; replace r2 := kept_cell hSw r2; go_simp; try with_reducible rfl)
    try simp only [Act.put, List.setIfInBounds_toArray, List.set_cons_zero, List.set_cons_succ]
    refine x_take (i := 5) (oi := { dst := some 45, op := Op.move (Operand.tmp 2), type := 29, pos := "law.go:248", after := #[], guard := none }) (v := ?_) rfl (by kernel_rfl) (by kernel_rfl) (by kernel_rfl) (by kernel_rfl) (by kernel_rfl) (fun _ _ _ h => h) (Or.inl ⟨rfl, ?_⟩) (by assumption) ?_
    rotate_left
    · (intro w' hSw; replace q0 := kept_cell hSw q0; replace q1 := kept_cell hSw q1; replace q2 := kept_cell hSw q2; replace r0 := kept_cell hSw r0; replace r1 := kept_cell hSw r1; replace r2 := kept_cell hSw r2; go_simp; try with_reducible rfl)
    try simp only [Act.put, List.setIfInBounds_toArray, List.set_cons_zero, List.set_cons_succ]
    have SIZE := K0.size
    have BW := h100
    refine four_any (St3 i s l f nx x w2) (by kernel_rfl) (by kernel_rfl) (by kernel_rfl) ?g0 ?g00 ?g1 ?g3 ?g6 ?g4 ?g7 ?g8 ?gend
    case g0 => exact fun p b4 b7 b8 a w' h => by obtain ⟨_, _, _, _, _, _, _, F⟩ := h; exact F.K
    case g00 => exact ⟨undef, undef, undef, undef, undef, undef, by kernel_rfl, Fx.begin w2⟩
    case g1 =>
      intro b4 b7 b8 a w' h
      obtain ⟨x41, x43, x44, x46, x7, x8, rfl, F⟩ := h
      have HFx := Lib.hid F; have KF := kept_trans K0 F.K; clear F
      refine op_shut (i := 1) (o := { dst := some 41, op := Op.call { callee := Callee.value (Operand.func 48), args := #[Operand.tmp 40], argTypes := #[24] }, type := 24, pos := "law.go:248", after := #[{ on := 0, ground := Ground.data }], guard := none }) (by kernel_rfl) (fun K hK => ?_)
      simp only [Act.put, List.setIfInBounds_toArray, List.set_cons_zero, List.set_cons_succ]
      go_simp
      go_at_call 48
      (with_reducible refine (C48.out _ KF).mono ?_)
      rintro e w50 ⟨v, rfl, A7, c7, rfl, r7, k7⟩
      try dsimp only
      refine hK.out _ _ ⟨.agg #[.int .i64 i, .int .i64 s, .slice A7 l.length c7], x43, x44, x46, x7, x8, ?_, HFx.out.one k7 r7⟩
      simp only [Act.put, List.setIfInBounds_toArray, List.set_cons_zero, List.set_cons_succ]
    case g3 =>
      intro b4 b7 b8 a w' h
      obtain ⟨x41, x43, x44, x46, x7, x8, rfl, F⟩ := h
      have HFx := Lib.hid F; have KF := kept_trans K0 F.K; clear F
      refine op_shut (i := 3) (o := { dst := some 43, op := Op.call { callee := Callee.value (Operand.func 49), args := #[Operand.tmp 42], argTypes := #[52] }, type := 52, pos := "law.go:248", after := #[{ on := 2, ground := Ground.data }, { on := 1, ground := Ground.chain }], guard := none }) (by kernel_rfl) (fun K hK => ?_)
      simp only [Act.put, List.setIfInBounds_toArray, List.set_cons_zero, List.set_cons_succ]
      go_simp
      go_at_call 49
      (with_reducible refine (C49.out _ KF).mono ?_)
      rintro e w50 ⟨A8, c8, rfl, r8, k8⟩
      try dsimp only
      refine hK.out _ _ ⟨x41, fmV f A8 c8, x44, x46, x7, x8, ?_, HFx.out.three k8 r8⟩
      simp only [Act.put, List.setIfInBounds_toArray, List.set_cons_zero, List.set_cons_succ]
    case g4 =>
      intro p b7 b8 a w' hp2 h
      obtain ⟨x41, x43, x44, x46, x7, x8, rfl, F⟩ := h
      have HFx := Lib.hid F; have KF := kept_trans K0 F.K; clear F
      refine op_shut (i := 4) (o := { dst := some 44, op := Op.buildSlice 29 0 #[], type := 29, pos := "law.go:248", after := #[], guard := none }) (by kernel_rfl) (fun K hK => ?_)
      simp only [Act.put, List.setIfInBounds_toArray, List.set_cons_zero, List.set_cons_succ]
      go_simp
      refine hK.out _ _ ⟨x41, x43, .slice (some ⟨w'.heap.size, 0, none⟩) 0 0, x46, x7, x8, ?_, HFx.out.four hp2⟩
      simp only [Act.put, List.setIfInBounds_toArray, List.set_cons_zero, List.set_cons_succ]
    case g7 =>
      intro p b4 b8 a w' h
      obtain ⟨x41, x43, x44, x46, x7, x8, rfl, F⟩ := h
      have HFx := Lib.hid F; have KF := kept_trans K0 F.K; clear F
      refine op_shut (i := 7) (o := { dst := some 7, op := Op.alloc 24, type := 0, pos := "law.go:248", after := #[], guard := none }) (by kernel_rfl) (fun K hK => ?_)
      simp only [Act.put, List.setIfInBounds_toArray, List.set_cons_zero, List.set_cons_succ]
      go_simp
      refine hK.out _ _ ⟨x41, x43, x44, x46, .pointer (some ⟨w'.heap.size, 0, none⟩), x8, ?_, HFx.out.seven⟩
      simp only [Act.put, List.setIfInBounds_toArray, List.set_cons_zero, List.set_cons_succ]
    case g8 =>
      intro p b4 b7 a w' h
      obtain ⟨x41, x43, x44, x46, x7, x8, rfl, F⟩ := h
      have HFx := Lib.hid F; have KF := kept_trans K0 F.K; clear F
      refine op_shut (i := 8) (o := { dst := some 8, op := Op.alloc 52, type := 0, pos := "law.go:248", after := #[], guard := none }) (by kernel_rfl) (fun K hK => ?_)
      simp only [Act.put, List.setIfInBounds_toArray, List.set_cons_zero, List.set_cons_succ]
      go_simp
      refine hK.out _ _ ⟨x41, x43, x44, x46, x7, .pointer (some ⟨w'.heap.size, 0, none⟩), ?_, HFx.out.eight⟩
      simp only [Act.put, List.setIfInBounds_toArray, List.set_cons_zero, List.set_cons_succ]
    case g6 =>
      intro b7 b8 a w' h
      obtain ⟨x41, x43, x44, x46, x7, x8, rfl, F⟩ := h
      obtain ⟨g4, e44, r4, hg4, hl4⟩ := F.f4 rfl (by omega)
      subst e44
      have HFx := Lib.hid F; have KF := kept_trans K0 F.K; clear F
      have hxk := HX.out.kept KF
      simp only [Act.put, List.setIfInBounds_toArray, List.set_cons_zero, List.set_cons_succ]
      refine op_shut (i := 6) (o := { dst := some 46, op := Op.call { callee := Callee.builtin Builtin.append, args := #[Operand.tmp 44, Operand.tmp 45], argTypes := #[29, 29] }, type := 29, pos := "law.go:248", after := #[{ on := 4, ground := Ground.data }, { on := 5, ground := Ground.data }, { on := 3, ground := Ground.chain }], guard := none }) (by kernel_rfl) (fun K hK => ?_)
      refine step_bools rfl (.tmp 44) (.tmp 45) 29 rfl Try.underlying29 info4 g4 nx cx X x HNX.out (by omega) (by rfl) (by rfl) hxk r4 (Nat.le_of_lt hl4) (fun v1 w50 r6 k6 => ?_)
      refine hK.out _ _ ⟨x41, x43, .slice (some ⟨g4, 0, none⟩) 0 0, v1, x7, x8, ?_, HFx.out.six r6 k6⟩
      simp only [Act.put, List.setIfInBounds_toArray, List.set_cons_zero, List.set_cons_succ]
    case gend =>
      intro a w' h
      obtain ⟨x41, x43, x44, x46, x7, x8, rfl, F⟩ := h
      obtain ⟨g7, g8, A7, A8, A9, c7, c8, c9, rfl, rfl, rfl, rfl, rfl, o7, o8, hW7, hW8, hne, KW, hrest⟩ := F.fin
      have HRS := Lib.hid hrest; clear hrest F
      simp only [Act.put, List.setIfInBounds_toArray, List.set_cons_zero, List.set_cons_succ]
      have y0 := o7.cell (j := 0) rfl; have f0 := o7.frozen 0
      have y1 := o7.cell (j := 1) rfl; have f1 := o7.frozen 1
      have y2 := o7.cell (j := 2) rfl; have f2 := o7.frozen 2
      have u0 := o8.cell (j := 0) rfl; have h0 := o8.frozen 0
      have u1 := o8.cell (j := 1) rfl; have h1 := o8.frozen 1
      have u2 := o8.cell (j := 2) rfl; have h2 := o8.frozen 2
      refine x_one (i := 9) (o := { dst := none, op := Op.store 24 (Operand.tmp 7) (Operand.tmp 41), type := 0, pos := "law.go:248", after := #[{ on := 7, ground := Ground.data }, { on := 1, ground := Ground.data }, { on := 6, ground := Ground.chain }, { on := 0, ground := Ground.phase }, { on := 1, ground := Ground.phase }, { on := 2, ground := Ground.textOnly Departure.lateStores }, { on := 3, ground := Ground.textOnly Departure.lateStoresUnsure }, { on := 4, ground := Ground.textOnly Departure.lateStores }, { on := 5, ground := Ground.textOnly Departure.lateStores }, { on := 6, ground := Ground.textOnly Departure.lateStoresUnsure }, { on := 7, ground := Ground.phase }, { on := 8, ground := Ground.phase }], guard := none }) (by kernel_rfl) rfl (fun K hK => ?_)
      go_simp
      refine hK.out _ _ ?_ (fun hHeld => ?_)
      · exact kept_set (kept_set (kept_set KW hW7 _) hW7 _) hW7 _
      clear hK K
      refine x_one (i := 10) (o := { dst := none, op := Op.store 52 (Operand.tmp 8) (Operand.tmp 43), type := 0, pos := "law.go:248", after := #[{ on := 8, ground := Ground.data }, { on := 3, ground := Ground.data }, { on := 9, ground := Ground.chain }, { on := 0, ground := Ground.phase }, { on := 1, ground := Ground.phase }, { on := 2, ground := Ground.phase }, { on := 3, ground := Ground.phase }, { on := 4, ground := Ground.textOnly Departure.lateStores }, { on := 5, ground := Ground.textOnly Departure.lateStores }, { on := 6, ground := Ground.textOnly Departure.lateStoresUnsure }, { on := 7, ground := Ground.phase }, { on := 8, ground := Ground.phase }, { on := 9, ground := Ground.phase }], guard := none }) (by kernel_rfl) rfl (fun K hK => ?_)
      go_simp
      refine hK.out _ _ ?_ (fun hHeld => ?_)
      · exact kept_set (kept_set (kept_set hHeld hW8 _) hW8 _) hW8 _
      clear hK K
      refine x_one (i := 11) (o := { dst := some 9, op := Op.assign (Operand.tmp 46), type := 29, pos := "law.go:248", after := #[{ on := 6, ground := Ground.data }, { on := 10, ground := Ground.chain }, { on := 0, ground := Ground.phase }, { on := 1, ground := Ground.phase }, { on := 2, ground := Ground.phase }, { on := 3, ground := Ground.phase }, { on := 4, ground := Ground.phase }, { on := 5, ground := Ground.phase }, { on := 6, ground := Ground.phase }, { on := 7, ground := Ground.phase }, { on := 8, ground := Ground.phase }, { on := 9, ground := Ground.phase }, { on := 10, ground := Ground.phase }], guard := none }) (by kernel_rfl) rfl (fun K hK => ?_)
      go_simp
      refine hK.out _ _ ?_ (fun hHeld => ?_)
      · assumption
      clear hK K
      refine x_done (by kernel_rfl) ?_ _
      go_wp2_with fail
      go_meet
      have p7 := ((((((o7.set 0 (.int .i64 i)).set 1 (.int .i64 s)).set 2 (.slice A7 l.length c7)).other (a := ⟨g8, 0, none⟩) hne (.int .i64 f.k)).other (a := ⟨g8, 1, none⟩) hne (.int .i64 f.n)).other (a := ⟨g8, 2, none⟩) hne (.slice A8 f.l.length c8))
      have p8 := ((((((o8.other (a := ⟨g7, 0, none⟩) hne.symm (.int .i64 i)).other (a := ⟨g7, 1, none⟩) hne.symm (.int .i64 s)).other (a := ⟨g7, 2, none⟩) hne.symm (.slice A7 l.length c7)).set 0 (.int .i64 f.k)).set 1 (.int .i64 f.n)).set 2 (.slice A8 f.l.length c8))
      obtain ⟨t1, t2, t3⟩ := HRS.out ((((((w'.setCell ⟨g7, 0, none⟩ (.int .i64 i)).setCell ⟨g7, 1, none⟩ (.int .i64 s)).setCell ⟨g7, 2, none⟩ (.slice A7 l.length c7)).setCell ⟨g8, 0, none⟩ (.int .i64 f.k)).setCell ⟨g8, 1, none⟩ (.int .i64 f.n)).setCell ⟨g8, 2, none⟩ (.slice A8 f.l.length c8)) (fun b hb h7 h8 => (Below.heap_setCell _ ⟨g8, 2, none⟩ (.slice A8 f.l.length c8) b h8).trans ((Below.heap_setCell _ ⟨g8, 1, none⟩ (.int .i64 f.n) b h8).trans ((Below.heap_setCell _ ⟨g8, 0, none⟩ (.int .i64 f.k) b h8).trans ((Below.heap_setCell _ ⟨g7, 2, none⟩ (.slice A7 l.length c7) b h7).trans ((Below.heap_setCell _ ⟨g7, 1, none⟩ (.int .i64 s) b h7).trans ((Below.heap_setCell _ ⟨g7, 0, none⟩ (.int .i64 i) b h7)))))))
      exact ⟨g7, g8, A7, A8, A9, c7, c8, c9, rfl, rfl, rfl, hHeld, p7, t1, p8, t2, t3⟩
  case rest =>
    obtain ⟨g7, g8, A7, A8, A9, c7, c8, c9, rfl, rfl, rfl, k, o7, rn7, o8, rk8, rd9⟩ := hcut
    obtain ⟨w0, rfl⟩ : ∃ w0 : World, w0 = wc := ⟨_, rfl⟩
    replace K0 := kept_trans K0 k; replace o0 := o0.kept k; replace o1 := o1.kept k
    clear q0 q1 q2 r0 r1 r2 k
    have q0 := o0.cell (j := 0) rfl; have q1 := o0.cell (j := 1) rfl; have q2 := o0.cell (j := 2) rfl; have r0 := o1.cell (j := 0) rfl; have r1 := o1.cell (j := 1) rfl; have r2 := o1.cell (j := 2) rfl
    have D40 := slim_all i s A c l (by have := HN.out; omega)
    have D47 := layers_all i s A c l (by have := HN.out; omega)
    have D44 := from_all f B d (by have := H60.out; omega) hfl
    have D32 := formula_all i s A c l (by have := HN.out; omega)
    have D27 := table_all i s A c l (by have := HN.out; omega)
    have D26 := run_all i s A c l X cx x (by have := HN.out; omega) (by have := HNX.out; omega)
    obtain ⟨n1, s1, l1, hl1, D40⟩ := D40
    obtain ⟨n2, s2, l2, hl2, D47⟩ := D47
    obtain ⟨n3, s3, l3, hl3, D44⟩ := D44
    obtain ⟨fg, hfc, hfgl, D32⟩ := D32
    obtain ⟨tb, htb, D27⟩ := D27
    obtain ⟨pt, hpt, D26⟩ := D26
    rw [← HNX.out] at D26
    unfold BrRes at D40 D47 D44
    unfold FrRes at D32
    unfold BsRes at D27
    unfold IsRes at D26
    unfold fmV at D44 D32
    have hrc := HR.out.kept K0
    have hfc2 := HF.out.kept K0
    have hxc := HX.out.kept K0
    have C40 := Lib.hid fun (w' : World) (k : Kept w0 w') => D40 w' (hrc.kept k)
    have C47 := Lib.hid fun (w' : World) (k : Kept w0 w') => D47 w' (hrc.kept k)
    have C44 := Lib.hid fun (w' : World) (k : Kept w0 w') => D44 w' (hfc2.kept k)
    have C32 := Lib.hid fun (w' : World) (k : Kept w0 w') => D32 w' (hrc.kept k)
    have C27 := Lib.hid fun (w' : World) (k : Kept w0 w') => D27 w' (hrc.kept k)
    have C26 := Lib.hid fun (w' : World) (k : Kept w0 w') => D26 w' (hrc.kept k) (hxc.kept k)
    have H0 := Lib.hid (And.intro hrc (And.intro hfc2 (And.intro hxc (And.intro rn7 (And.intro rk8 rd9)))))
    clear D40 D47 D44 D32 D27 D26 hrc hfc2 hxc rn7 rk8 rd9
    have a10 := (Own.new w0 70 (arr3 (fun _ => 0) (fun _ => 0) (fun _ => .slice none 0 0))).alloc (.cells #[.int .i64 0, .int .i64 0, .slice none 0 0] 52)
    have a11 := Own.new (w0.alloc (.cells (arr3 (fun _ => 0) (fun _ => 0) (fun _ => .slice none 0 0)).toArray 70)) 52 [.int .i64 0, .int .i64 0, .slice none 0 0]
    simp only [World.size_alloc] at a11
    have aK : Kept w0 ((w0.alloc (.cells (arr3 (fun _ => 0) (fun _ => 0) (fun _ => .slice none 0 0)).toArray 70)).alloc (.cells #[.int .i64 0, .int .i64 0, .slice none 0 0] 52)) := kept_alloc (kept_alloc (kept_refl w0) _) _
    have Hd : OwHd w0 ((w0.alloc (.cells (arr3 (fun _ => 0) (fun _ => 0) (fun _ => .slice none 0 0)).toArray 70)).alloc (.cells #[.int .i64 0, .int .i64 0, .slice none 0 0] 52)) w0.heap.size (w0.heap.size + 1) 0 (pick3 n1 n2 n3) (pick3 s1 s2 s3) (pick3 l1 l2 l3) fg :=
      ⟨aK, ⟨_, _, _, a10, fun h => by omega⟩, ⟨_, _, _, a11, fun h => by omega⟩⟩
    clear a10 a11 aK
    have z7 := o7.lt; have z8 := o8.lt; have z0 := o0.lt; have z1 := o1.lt
    go_wp2_with fail
    clear q0 q1 q2 r0 r1 r2
    go_loopg [12] 2 (fun g' s12 wr => ∃ r : Nat, r ≤ 2 ∧ g' = 2 - r ∧ s12 = .int .i64 r ∧ OwHd w0 wr w0.heap.size (w0.heap.size + 1) r (pick3 n1 n2 n3) (pick3 s1 s2 s3) (pick3 l1 l2 l3) fg)
    case atStart => exact ⟨0, by omega, rfl, rfl, Hd⟩
    case round =>
      clear Hd
      obtain ⟨r, hr2, rfl, rfl, Hd⟩ := hrel
      obtain ⟨wo, rfl⟩ : ∃ wo : World, wo = wr := ⟨_, rfl⟩
      have bx0 := o0.kept Hd.K; have bx1 := o1.kept Hd.K
      have q0 := bx0.cell (j := 0) rfl; have q1 := bx0.cell (j := 1) rfl; have q2 := bx0.cell (j := 2) rfl
      have r0 := bx1.cell (j := 0) rfl; have r1 := bx1.cell (j := 1) rfl; have r2 := bx1.cell (j := 2) rfl
      have zr := Hd.K.size
      by_cases hlt : r < 2
      · have KR : Kept wo ((wo.alloc (.cells #[.int .i64 0, .int .i64 0, .slice none 0 0, .int .i64 0, .int .i64 0, .slice none 0 0, .int .i64 0, .int .i64 0, .slice none 0 0] 70)).alloc (.cells #[.int .i64 0, .int .i64 0, .slice none 0 0, .int .i64 0, .int .i64 0, .slice none 0 0, .int .i64 0, .int .i64 0, .slice none 0 0] 70)) := kept_alloc (kept_alloc (kept_refl wo) _) _
        have o13 := (Own.new wo 70 [.int .i64 0, .int .i64 0, .slice none 0 0, .int .i64 0, .int .i64 0, .slice none 0 0, .int .i64 0, .int .i64 0, .slice none 0 0]).alloc (.cells #[.int .i64 0, .int .i64 0, .slice none 0 0, .int .i64 0, .int .i64 0, .slice none 0 0, .int .i64 0, .int .i64 0, .slice none 0 0] 70)
        have o14 := Own.new (wo.alloc (.cells #[.int .i64 0, .int .i64 0, .slice none 0 0, .int .i64 0, .int .i64 0, .slice none 0 0, .int .i64 0, .int .i64 0, .slice none 0 0] 70)) 70 [.int .i64 0, .int .i64 0, .slice none 0 0, .int .i64 0, .int .i64 0, .slice none 0 0, .int .i64 0, .int .i64 0, .slice none 0 0]
        simp only [World.size_alloc] at o14
        have KC := kept_trans Hd.K KR
        replace bx0 := bx0.kept KR; replace bx1 := bx1.kept KR
        have HD := Lib.hid Hd
        clear Hd q0 q1 q2 r0 r1 r2
        go_upto_region 10 with (fail)
        obtain ⟨wa, hwa⟩ : ∃ x, x = (wo.alloc (.cells #[.int .i64 0, .int .i64 0, .slice none 0 0, .int .i64 0, .int .i64 0, .slice none 0 0, .int .i64 0, .int .i64 0, .slice none 0 0] 70)).alloc (.cells #[.int .i64 0, .int .i64 0, .slice none 0 0, .int .i64 0, .int .i64 0, .slice none 0 0, .int .i64 0, .int .i64 0, .slice none 0 0] 70) := ⟨_, rfl⟩
        have za : wa.heap.size = wo.heap.size + 2 := by rw [hwa]; simp
        rw [← hwa] at KC KR bx0 bx1 o13 o14 ⊢
        clear hwa
        have q0 := bx0.cell (j := 0) rfl; have q1 := bx0.cell (j := 1) rfl; have q2 := bx0.cell (j := 2) rfl
        have ZA := Lib.hid za; clear za
        go_wp2_with fail
        clear q0 q1 q2
        (with_reducible refine (C40.out _ KC).mono ?_)
        rintro e w20 ⟨v, e1, rfl, b1⟩
        obtain ⟨V, rfl, pr1, k⟩ := PrAt.of b1
        obtain ⟨A1, c1, rfl, _⟩ := id pr1
        clear b1
        replace KC := kept_trans KC k; replace KR := kept_trans KR k; replace bx0 := bx0.kept k; replace bx1 := bx1.kept k; replace o13 := o13.kept k; replace o14 := o14.kept k
        have zk1 := k.size
        clear k
        have q0 := bx0.cell (j := 0) rfl; have q1 := bx0.cell (j := 1) rfl; have q2 := bx0.cell (j := 2) rfl
        have y0 := o13.cell (j := 0) rfl; have f0 := o13.frozen 0
        have y1 := o13.cell (j := 1) rfl; have f1 := o13.frozen 1
        have y2 := o13.cell (j := 2) rfl; have f2 := o13.frozen 2
        go_wp2_with fail
        clear q0 q1 q2 y0 y1 y2 f0 f1 f2
        replace KC := kept_set (g := wo.heap.size) (j := 2) (kept_set (g := wo.heap.size) (j := 1) (kept_set (g := wo.heap.size) (j := 0) KC (by omega) (.int .i64 n1)) (by omega) (.int .i64 s1)) (by omega) (.slice A1 l1.length c1)
        replace KR := kept_set (g := wo.heap.size) (j := 2) (kept_set (g := wo.heap.size) (j := 1) (kept_set (g := wo.heap.size) (j := 0) KR (by omega) (.int .i64 n1)) (by omega) (.int .i64 s1)) (by omega) (.slice A1 l1.length c1)
        replace bx0 := ((bx0.other (a := ⟨wo.heap.size, 0, none⟩) (by dsimp only; omega) (.int .i64 n1)).other (a := ⟨wo.heap.size, 1, none⟩) (by dsimp only; omega) (.int .i64 s1)).other (a := ⟨wo.heap.size, 2, none⟩) (by dsimp only; omega) (.slice A1 l1.length c1)
        replace bx1 := ((bx1.other (a := ⟨wo.heap.size, 0, none⟩) (by dsimp only; omega) (.int .i64 n1)).other (a := ⟨wo.heap.size, 1, none⟩) (by dsimp only; omega) (.int .i64 s1)).other (a := ⟨wo.heap.size, 2, none⟩) (by dsimp only; omega) (.slice A1 l1.length c1)
        replace o14 := ((o14.other (a := ⟨wo.heap.size, 0, none⟩) (by dsimp only; omega) (.int .i64 n1)).other (a := ⟨wo.heap.size, 1, none⟩) (by dsimp only; omega) (.int .i64 s1)).other (a := ⟨wo.heap.size, 2, none⟩) (by dsimp only; omega) (.slice A1 l1.length c1)
        replace o13 := ((o13.set 0 (.int .i64 n1)).set 1 (.int .i64 s1)).set 2 (.slice A1 l1.length c1)
        replace pr1 := ((pr1.set (g := wo.heap.size) (by have := ZA.out; omega) 0 (.int .i64 n1)).set (g := wo.heap.size) (by have := ZA.out; omega) 1 (.int .i64 s1)).set (g := wo.heap.size) (by have := ZA.out; omega) 2 (.slice A1 l1.length c1)
        obtain ⟨W1, hW1⟩ : ∃ x, x = ((w20.setCell ⟨wo.heap.size, 0, none⟩ (.int .i64 n1)).setCell ⟨wo.heap.size, 1, none⟩ (.int .i64 s1)).setCell ⟨wo.heap.size, 2, none⟩ (.slice A1 l1.length c1) := ⟨_, rfl⟩
        have zs1 : w20.heap.size ≤ W1.heap.size := by rw [hW1]; simp
        rw [← hW1] at KC KR bx0 bx1 o13 o14 pr1 ⊢
        clear hW1
        (with_reducible refine (C47.out _ KC).mono ?_)
        rintro e w21 ⟨v, e2, rfl, b1⟩
        obtain ⟨V, rfl, pr2, k⟩ := PrAt.of b1
        obtain ⟨A2, c2, rfl, _⟩ := id pr2
        clear b1
        replace KC := kept_trans KC k; replace KR := kept_trans KR k; replace bx0 := bx0.kept k; replace bx1 := bx1.kept k; replace o13 := o13.kept k; replace o14 := o14.kept k
        replace pr1 := pr1.kept k
        have zk2 := k.size
        clear k
        have q0 := bx1.cell (j := 0) rfl; have q1 := bx1.cell (j := 1) rfl; have q2 := bx1.cell (j := 2) rfl
        have y0 := o13.cell (j := 3) rfl; have f0 := o13.frozen 3
        have y1 := o13.cell (j := 4) rfl; have f1 := o13.frozen 4
        have y2 := o13.cell (j := 5) rfl; have f2 := o13.frozen 5
        go_wp2_with fail
        clear q0 q1 q2 y0 y1 y2 f0 f1 f2
        replace KC := kept_set (g := wo.heap.size) (j := 5) (kept_set (g := wo.heap.size) (j := 4) (kept_set (g := wo.heap.size) (j := 3) KC (by omega) (.int .i64 n2)) (by omega) (.int .i64 s2)) (by omega) (.slice A2 l2.length c2)
        replace KR := kept_set (g := wo.heap.size) (j := 5) (kept_set (g := wo.heap.size) (j := 4) (kept_set (g := wo.heap.size) (j := 3) KR (by omega) (.int .i64 n2)) (by omega) (.int .i64 s2)) (by omega) (.slice A2 l2.length c2)
        replace bx0 := ((bx0.other (a := ⟨wo.heap.size, 3, none⟩) (by dsimp only; omega) (.int .i64 n2)).other (a := ⟨wo.heap.size, 4, none⟩) (by dsimp only; omega) (.int .i64 s2)).other (a := ⟨wo.heap.size, 5, none⟩) (by dsimp only; omega) (.slice A2 l2.length c2)
        replace bx1 := ((bx1.other (a := ⟨wo.heap.size, 3, none⟩) (by dsimp only; omega) (.int .i64 n2)).other (a := ⟨wo.heap.size, 4, none⟩) (by dsimp only; omega) (.int .i64 s2)).other (a := ⟨wo.heap.size, 5, none⟩) (by dsimp only; omega) (.slice A2 l2.length c2)
        replace o14 := ((o14.other (a := ⟨wo.heap.size, 3, none⟩) (by dsimp only; omega) (.int .i64 n2)).other (a := ⟨wo.heap.size, 4, none⟩) (by dsimp only; omega) (.int .i64 s2)).other (a := ⟨wo.heap.size, 5, none⟩) (by dsimp only; omega) (.slice A2 l2.length c2)
        replace o13 := ((o13.set 3 (.int .i64 n2)).set 4 (.int .i64 s2)).set 5 (.slice A2 l2.length c2)
        replace pr1 := ((pr1.set (g := wo.heap.size) (by have := ZA.out; omega) 3 (.int .i64 n2)).set (g := wo.heap.size) (by have := ZA.out; omega) 4 (.int .i64 s2)).set (g := wo.heap.size) (by have := ZA.out; omega) 5 (.slice A2 l2.length c2)
        replace pr2 := ((pr2.set (g := wo.heap.size) (by have := ZA.out; omega) 3 (.int .i64 n2)).set (g := wo.heap.size) (by have := ZA.out; omega) 4 (.int .i64 s2)).set (g := wo.heap.size) (by have := ZA.out; omega) 5 (.slice A2 l2.length c2)
        obtain ⟨W2, hW2⟩ : ∃ x, x = ((w21.setCell ⟨wo.heap.size, 3, none⟩ (.int .i64 n2)).setCell ⟨wo.heap.size, 4, none⟩ (.int .i64 s2)).setCell ⟨wo.heap.size, 5, none⟩ (.slice A2 l2.length c2) := ⟨_, rfl⟩
        have zs2 : w21.heap.size ≤ W2.heap.size := by rw [hW2]; simp
        rw [← hW2] at KC KR bx0 bx1 o13 o14 pr1 pr2 ⊢
        clear hW2
        (with_reducible refine (C44.out _ KC).mono ?_)
        rintro e w22 ⟨v, e3, rfl, b1⟩
        obtain ⟨V, rfl, pr3, k⟩ := PrAt.of b1
        obtain ⟨A3, c3, rfl, _⟩ := id pr3
        clear b1
        replace KC := kept_trans KC k; replace KR := kept_trans KR k; replace bx0 := bx0.kept k; replace bx1 := bx1.kept k; replace o13 := o13.kept k; replace o14 := o14.kept k
        replace pr1 := pr1.kept k
        replace pr2 := pr2.kept k
        have zk3 := k.size
        clear k
        have q0 := bx0.cell (j := 0) rfl; have q1 := bx0.cell (j := 1) rfl; have q2 := bx0.cell (j := 2) rfl
        have y0 := o13.cell (j := 6) rfl; have f0 := o13.frozen 6
        have y1 := o13.cell (j := 7) rfl; have f1 := o13.frozen 7
        have y2 := o13.cell (j := 8) rfl; have f2 := o13.frozen 8
        go_wp2_with fail
        clear q0 q1 q2 y0 y1 y2 f0 f1 f2
        replace KC := kept_set (g := wo.heap.size) (j := 8) (kept_set (g := wo.heap.size) (j := 7) (kept_set (g := wo.heap.size) (j := 6) KC (by omega) (.int .i64 n3)) (by omega) (.int .i64 s3)) (by omega) (.slice A3 l3.length c3)
        replace KR := kept_set (g := wo.heap.size) (j := 8) (kept_set (g := wo.heap.size) (j := 7) (kept_set (g := wo.heap.size) (j := 6) KR (by omega) (.int .i64 n3)) (by omega) (.int .i64 s3)) (by omega) (.slice A3 l3.length c3)
        replace bx0 := ((bx0.other (a := ⟨wo.heap.size, 6, none⟩) (by dsimp only; omega) (.int .i64 n3)).other (a := ⟨wo.heap.size, 7, none⟩) (by dsimp only; omega) (.int .i64 s3)).other (a := ⟨wo.heap.size, 8, none⟩) (by dsimp only; omega) (.slice A3 l3.length c3)
        replace bx1 := ((bx1.other (a := ⟨wo.heap.size, 6, none⟩) (by dsimp only; omega) (.int .i64 n3)).other (a := ⟨wo.heap.size, 7, none⟩) (by dsimp only; omega) (.int .i64 s3)).other (a := ⟨wo.heap.size, 8, none⟩) (by dsimp only; omega) (.slice A3 l3.length c3)
        replace o14 := ((o14.other (a := ⟨wo.heap.size, 6, none⟩) (by dsimp only; omega) (.int .i64 n3)).other (a := ⟨wo.heap.size, 7, none⟩) (by dsimp only; omega) (.int .i64 s3)).other (a := ⟨wo.heap.size, 8, none⟩) (by dsimp only; omega) (.slice A3 l3.length c3)
        replace o13 := ((o13.set 6 (.int .i64 n3)).set 7 (.int .i64 s3)).set 8 (.slice A3 l3.length c3)
        replace pr1 := ((pr1.set (g := wo.heap.size) (by have := ZA.out; omega) 6 (.int .i64 n3)).set (g := wo.heap.size) (by have := ZA.out; omega) 7 (.int .i64 s3)).set (g := wo.heap.size) (by have := ZA.out; omega) 8 (.slice A3 l3.length c3)
        replace pr2 := ((pr2.set (g := wo.heap.size) (by have := ZA.out; omega) 6 (.int .i64 n3)).set (g := wo.heap.size) (by have := ZA.out; omega) 7 (.int .i64 s3)).set (g := wo.heap.size) (by have := ZA.out; omega) 8 (.slice A3 l3.length c3)
        replace pr3 := ((pr3.set (g := wo.heap.size) (by have := ZA.out; omega) 6 (.int .i64 n3)).set (g := wo.heap.size) (by have := ZA.out; omega) 7 (.int .i64 s3)).set (g := wo.heap.size) (by have := ZA.out; omega) 8 (.slice A3 l3.length c3)
        obtain ⟨W3, hW3⟩ : ∃ x, x = ((w22.setCell ⟨wo.heap.size, 6, none⟩ (.int .i64 n3)).setCell ⟨wo.heap.size, 7, none⟩ (.int .i64 s3)).setCell ⟨wo.heap.size, 8, none⟩ (.slice A3 l3.length c3) := ⟨_, rfl⟩
        have zs3 : w22.heap.size ≤ W3.heap.size := by rw [hW3]; simp
        rw [← hW3] at KC KR bx0 bx1 o13 o14 pr1 pr2 pr3 ⊢
        clear hW3
        (with_reducible refine (C32.out _ KC).mono ?_)
        rintro e w23 ⟨A15, c15, e4, rfl, t15, k⟩
        have zs32 := k.size
        obtain ⟨hlen, dp, sr15⟩ := t15.sr
        subst hlen
        have rk15 := t15.rkp
        clear t15
        replace KC := kept_trans KC k; replace KR := kept_trans KR k; replace bx0 := bx0.kept k; replace bx1 := bx1.kept k; replace o13 := o13.kept k; replace o14 := o14.kept k; replace pr1 := pr1.kept k; replace pr2 := pr2.kept k; replace pr3 := pr3.kept k
        clear k
        have o15 := Own.new w23 52 [.int .i64 fg.k, .int .i64 fg.n, .slice A15 fg.l.length fg.l.length]
        have ka : Kept w23 (w23.alloc (.cells #[.int .i64 fg.k, .int .i64 fg.n, .slice A15 fg.l.length fg.l.length] 52)) := kept_alloc (kept_refl _) _
        go_upto_region 14 with (fail)
        obtain ⟨W4, hW4⟩ : ∃ x, x = w23.alloc (.cells #[.int .i64 fg.k, .int .i64 fg.n, .slice A15 fg.l.length fg.l.length] 52) := ⟨_, rfl⟩
        have zs4 : w23.heap.size < W4.heap.size := by rw [hW4]; simp
        rw [← hW4] at o15 ka ⊢
        clear hW4
        replace sr15 := sr15.kept ka; replace rk15 := rk15.kept ka
        have k := ka; clear ka
        replace KC := kept_trans KC k; replace KR := kept_trans KR k; replace bx0 := bx0.kept k; replace bx1 := bx1.kept k; replace o13 := o13.kept k; replace o14 := o14.kept k; replace pr1 := pr1.kept k; replace pr2 := pr2.kept k; replace pr3 := pr3.kept k
        clear k
        have q0 := bx0.cell (j := 0) rfl; have q1 := bx0.cell (j := 1) rfl; have q2 := bx0.cell (j := 2) rfl
        go_wp2_with fail
        clear q0 q1 q2
        (with_reducible refine (C27.out _ KC).mono ?_)
        rintro e w24 ⟨A17, c17, e5, rfl, row17, k⟩
        have in17 : NoneIn W4.heap.size w24.heap.size (.slice A17 tb.length c17) := fun b hb => row17.lt b hb
        have zs5 := k.size
        replace sr15 := sr15.kept k; replace rk15 := rk15.kept k; replace o15 := o15.kept k
        replace KC := kept_trans KC k; replace KR := kept_trans KR k; replace bx0 := bx0.kept k; replace bx1 := bx1.kept k; replace o13 := o13.kept k; replace o14 := o14.kept k; replace pr1 := pr1.kept k; replace pr2 := pr2.kept k; replace pr3 := pr3.kept k
        clear k
        have q0 := bx0.cell (j := 0) rfl; have q1 := bx0.cell (j := 1) rfl; have q2 := bx0.cell (j := 2) rfl
        go_wp2_with fail
        clear q0 q1 q2
        (with_reducible refine (C26.out _ KC).mono ?_)
        rintro e w25 ⟨A20, c20, qv, e6, rfl, row20, k⟩
        have in20 : NoneIn w24.heap.size w25.heap.size (.slice A20 pt.length c20) := fun b hb => row20.lt b hb
        have zs6 := k.size
        replace sr15 := sr15.kept k; replace rk15 := rk15.kept k; replace o15 := o15.kept k; replace row17 := row_kept row17 k
        replace KC := kept_trans KC k; replace KR := kept_trans KR k; replace bx0 := bx0.kept k; replace bx1 := bx1.kept k; replace o13 := o13.kept k; replace o14 := o14.kept k; replace pr1 := pr1.kept k; replace pr2 := pr2.kept k; replace pr3 := pr3.kept k
        clear k
        have g0 := o15.cell (j := 0) rfl; have g1 := o15.cell (j := 1) rfl; have g2 := o15.cell (j := 2) rfl
        go_wp2_with fail
        clear g0 g1 g2
        have C := copy49_any (cntF fg) fg A15 fg.l.length w25 (Nat.le_refl _) (by omega) hfgl rk15.rk
        unfold CpPost fmV at C
        (with_reducible refine C.mono ?_)
        rintro e w26 ⟨A22, c22, rfl, rk22, k⟩
        replace rk22 := rk22.range
        have zs7 := k.size
        replace sr15 := sr15.kept k; replace rk15 := rk15.kept k; replace o15 := o15.kept k; replace row17 := row_kept row17 k; replace row20 := row_kept row20 k
        clear C
        replace KC := kept_trans KC k; replace KR := kept_trans KR k; replace bx0 := bx0.kept k; replace bx1 := bx1.kept k; replace o13 := o13.kept k; replace o14 := o14.kept k; replace pr1 := pr1.kept k; replace pr2 := pr2.kept k; replace pr3 := pr3.kept k
        clear k
        have o22 := Own.new w26 52 [.int .i64 fg.k, .int .i64 fg.n, .slice A22 fg.l.length c22]
        have ka : Kept w26 (w26.alloc (.cells #[.int .i64 fg.k, .int .i64 fg.n, .slice A22 fg.l.length c22] 52)) := kept_alloc (kept_refl _) _
        go_upto_region 17 with (fail)
        obtain ⟨W5, hW5⟩ : ∃ x, x = w26.alloc (.cells #[.int .i64 fg.k, .int .i64 fg.n, .slice A22 fg.l.length c22] 52) := ⟨_, rfl⟩
        have zs8 : W5.heap.size = w26.heap.size + 1 := by rw [hW5]; simp
        rw [← hW5] at o22 ka ⊢
        clear hW5
        have k := ka; clear ka
        replace sr15 := sr15.kept k; replace rk15 := rk15.kept k; replace o15 := o15.kept k; replace row17 := row_kept row17 k; replace row20 := row_kept row20 k; replace rk22 := rk22.kept k
        replace KC := kept_trans KC k; replace KR := kept_trans KR k; replace bx0 := bx0.kept k; replace bx1 := bx1.kept k; replace o13 := o13.kept k; replace o14 := o14.kept k; replace pr1 := pr1.kept k; replace pr2 := pr2.kept k; replace pr3 := pr3.kept k
        clear k
        go_wp2_with fail
        have hll : ∀ j, j < 3 → (pick3 l1 l2 l3 j).length ≤ 20001 := fun j hj => by
          rcases (show j = 0 ∨ j = 1 ∨ j = 2 by omega) with rfl | rfl | rfl
          · exact hl1
          · exact hl2
          · exact hl3
        obtain ⟨VV, hVV⟩ : ∃ VV : Nat → Value, VV = pick3 (.slice A1 l1.length c1) (.slice A2 l2.length c2) (.slice A3 l3.length c3) := ⟨_, rfl⟩
        have PP : ∀ j, j < 3 → PrAt W5 (pick3 wa.heap.size W1.heap.size W2.heap.size j) (pick3 w20.heap.size w21.heap.size w22.heap.size j) (pick3 l1 l2 l3 j) (VV j) := fun j hj => by
          rw [hVV]
          rcases (show j = 0 ∨ j = 1 ∨ j = 2 by omega) with rfl | rfl | rfl
          · exact pr1
          · exact pr2
          · exact pr3
        have PL : ∀ j, j < 3 → wo.heap.size + 2 ≤ pick3 wa.heap.size W1.heap.size W2.heap.size j ∧ pick3 w20.heap.size w21.heap.size w22.heap.size j ≤ W3.heap.size ∧ pick3 wa.heap.size W1.heap.size W2.heap.size j ≤ W3.heap.size := fun j hj => by
          have := ZA.out
          rcases (show j = 0 ∨ j = 1 ∨ j = 2 by omega) with rfl | rfl | rfl
          · show _ ≤ wa.heap.size ∧ w20.heap.size ≤ _ ∧ wa.heap.size ≤ _; omega
          · show _ ≤ W1.heap.size ∧ w21.heap.size ≤ _ ∧ W1.heap.size ≤ _; omega
          · show _ ≤ W2.heap.size ∧ w22.heap.size ≤ _ ∧ W2.heap.size ≤ _; omega
        have PD : ∀ j m, j < m → m < 3 → pick3 w20.heap.size w21.heap.size w22.heap.size j ≤ pick3 wa.heap.size W1.heap.size W2.heap.size m := fun j m hj hm => by
          rcases (show (j = 0 ∧ m = 1) ∨ (j = 0 ∧ m = 2) ∨ (j = 1 ∧ m = 2) by omega) with ⟨rfl, rfl⟩ | ⟨rfl, rfl⟩ | ⟨rfl, rfl⟩
          · show w20.heap.size ≤ W1.heap.size; omega
          · show w20.heap.size ≤ W2.heap.size; omega
          · show w21.heap.size ≤ W2.heap.size; omega
        have o13' : Own W5 wo.heap.size 70 (arr3 (pick3 n1 n2 n3) (pick3 s1 s2 s3) VV) := by rw [hVV]; exact o13
        have o14' : Own W5 (wo.heap.size + 1) 70 (arr3 (fun _ => 0) (fun _ => 0) (fun _ => .slice none 0 0)) := o14
        have z35 : W3.heap.size ≤ W5.heap.size := by omega
        have zw3 : wo.heap.size + 2 ≤ W3.heap.size := by have := ZA.out; omega
        have zw5 : wo.heap.size + 2 < W5.heap.size := by have := ZA.out; omega
        have HLL := Lib.hid hll; have HPP := Lib.hid PP; have HPL := Lib.hid PL; have HPD := Lib.hid PD
        clear hVV o13 o14 hll PP PL PD pr1 pr2 pr3
        go_loopg [23] 3 (fun g' s23 w6 => ∃ (j : Nat) (n' s' : Nat → Int) (V' : Nat → Value), j ≤ 3 ∧ g' = 3 - j ∧ s23 = .int .i64 j ∧ Chg (wo.heap.size + 1) (wo.heap.size + 2) W5 w6 ∧ Own w6 (wo.heap.size + 1) 70 (arr3 n' s' V') ∧ (∀ q, q < j → n' q = pick3 n1 n2 n3 q ∧ s' q = pick3 s1 s2 s3 q ∧ ∃ hi, PrAt w6 W5.heap.size hi (pick3 l1 l2 l3 q) (V' q)))
        case atStart => exact ⟨0, _, _, _, by omega, rfl, rfl, chg_refl _ _ _, o14', fun q hq => by omega⟩
        case round =>
          clear o14'
          obtain ⟨j, n', s', V', hj, rfl, rfl, K6, o14, hdone⟩ := hrel
          have KR6 : Kept wo wr := kept_chg KR K6 (by omega)
          have z6 := K6.size
          have HDN := Lib.hid hdone; clear hdone
          by_cases hlt3 : j < 3
          · have PJ := (HPP.out j hlt3).chg K6 (.inr (by have := (HPL.out j hlt3).1; omega))
            obtain ⟨Aj, cj, eV, rwj, _⟩ := PJ
            have rnj : RN wr Aj _ := row_rd rwj
            clear rwj
            have x13 := o13'.chg K6 (.inl (by omega))
            obtain ⟨y0, y1, y2⟩ := arr3_at x13 hlt3
            rw [eV] at y2
            obtain ⟨v0, v1, v2⟩ := arr3_at o14 hlt3
            have f0 := o14.frozen (j * 3); have f1 := o14.frozen (j * 3 + 1); have f2 := o14.frozen (j * 3 + 2)
            have e0 : (0 : Int) ≤ (j : Int) := by omega
            have e1 : (j : Int) < 3 := by omega
            have EV := Lib.hid eV; clear eV
            generalize hnj : pick3 n1 n2 n3 j = nj at *
            generalize hsj : pick3 s1 s2 s3 j = sj at *
            generalize hlj2 : pick3 l1 l2 l3 j = lj at *
            have HNJ := Lib.hid hnj; have HSJ := Lib.hid hsj; have HLJ := Lib.hid hlj2
            clear hnj hsj hlj2
            have hlj : lj.length ≤ 20001 := by rw [← HLJ.out]; exact HLL.out j hlt3
            have C := copied48_any nj sj Aj cj lj wr (by omega) rnj
            unfold BrPost at C
            go_wp2_with fail
            (with_reducible refine C.mono ?_)
            rintro e w30 ⟨v, rfl, b1⟩
            obtain ⟨U, rfl, prU, k⟩ := PrAt.of b1
            obtain ⟨AU, cU, rfl, _⟩ := id prU
            clear b1 C
            replace y0 := kept_cell k y0; replace y1 := kept_cell k y1; replace y2 := kept_cell k y2
            replace v0 := kept_cell k v0; replace v1 := kept_cell k v1; replace v2 := kept_cell k v2
            replace o14 := o14.kept k; replace rnj := rnj.kept k; replace x13 := x13.kept k
            clear f0 f1 f2
            have f0 := o14.frozen (j * 3); have f1 := o14.frozen (j * 3 + 1); have f2 := o14.frozen (j * 3 + 2)
            have K7 := chg_kept K6 k
            have KR7 : Kept wo w30 := kept_trans KR6 k
            have zk6 := k.size
            go_upto_region 21 with (fail)
            have o14n := arr3_set o14 hlt3 nj sj (.slice AU lj.length cU)
            have K8 := chg_set (chg_set (chg_set K7 (g := wo.heap.size + 1) (.inl (by omega)) (j * 3) (.int .i64 nj)) (g := wo.heap.size + 1) (.inl (by omega)) (j * 3 + 1) (.int .i64 sj)) (g := wo.heap.size + 1) (.inl (by omega)) (j * 3 + 2) (.slice AU lj.length cU)
            have KR8 := kept_set (g := wo.heap.size + 1) (j := j * 3 + 2) (kept_set (g := wo.heap.size + 1) (j := j * 3 + 1) (kept_set (g := wo.heap.size + 1) (j := j * 3) KR7 (by omega) (.int .i64 nj)) (by omega) (.int .i64 sj)) (by omega) (.slice AU lj.length cU)
            have prU8 := ((prU.set (g := wo.heap.size + 1) (by omega) (j * 3) (.int .i64 nj)).set (g := wo.heap.size + 1) (by omega) (j * 3 + 1) (.int .i64 sj)).set (g := wo.heap.size + 1) (by omega) (j * 3 + 2) (.slice AU lj.length cU)
            have hd8 : ∀ q, q < j → n' q = pick3 n1 n2 n3 q ∧ s' q = pick3 s1 s2 s3 q ∧ ∃ hi, PrAt (((w30.setCell ⟨wo.heap.size + 1, j * 3, none⟩ (.int .i64 nj)).setCell ⟨wo.heap.size + 1, j * 3 + 1, none⟩ (.int .i64 sj)).setCell ⟨wo.heap.size + 1, j * 3 + 2, none⟩ (.slice AU lj.length cU)) W5.heap.size hi (pick3 l1 l2 l3 q) (V' q) := fun q hq => by
              obtain ⟨h1, h2, hi, h3⟩ := HDN.out q hq
              exact ⟨h1, h2, hi, (((h3.kept k).set (g := wo.heap.size + 1) (by omega) _ _).set (g := wo.heap.size + 1) (by omega) _ _).set (g := wo.heap.size + 1) (by omega) _ _⟩
            have x13n := ((x13.other (a := ⟨wo.heap.size + 1, j * 3, none⟩) (by dsimp only; omega) (.int .i64 nj)).other (a := ⟨wo.heap.size + 1, j * 3 + 1, none⟩) (by dsimp only; omega) (.int .i64 sj)).other (a := ⟨wo.heap.size + 1, j * 3 + 2, none⟩) (by dsimp only; omega) (.slice AU lj.length cU)
            have PJ8 := (HPP.out j hlt3).chg K8 (.inr (by have := (HPL.out j hlt3).1; omega))
            rw [EV.out, HLJ.out] at PJ8
            obtain ⟨Aj', cj', eV', rwj', _⟩ := PJ8
            injection eV' with eA eL eC
            subst eA; subst eC
            have rnj8 := row_rd rwj'
            clear rwj' eL
            obtain ⟨W7, hW7⟩ : ∃ x, x = ((w30.setCell ⟨wo.heap.size + 1, j * 3, none⟩ (.int .i64 nj)).setCell ⟨wo.heap.size + 1, j * 3 + 1, none⟩ (.int .i64 sj)).setCell ⟨wo.heap.size + 1, j * 3 + 2, none⟩ (.slice AU lj.length cU) := ⟨_, rfl⟩
            rw [← hW7] at o14n K8 KR8 prU8 hd8 x13n rnj8 ⊢
            clear hW7 y0 y1 y2 v0 v1 v2 f0 f1 f2 o14 rnj x13 prU K7 KR7 k
            obtain ⟨y0, y1, y2⟩ := arr3_at x13n hlt3
            rw [HNJ.out] at y0; rw [HSJ.out] at y1; rw [EV.out] at y2
            have HD8 := Lib.hid hd8; clear hd8
            have hrel9 : ∀ w9, Kept W7 w9 → ∃ (n'' s'' : Nat → Int) (V'' : Nat → Value), Chg (wo.heap.size + 1) (wo.heap.size + 2) W5 w9 ∧ Own w9 (wo.heap.size + 1) 70 (arr3 n'' s'' V'') ∧ (∀ q, q < j + 1 → n'' q = pick3 n1 n2 n3 q ∧ s'' q = pick3 s1 s2 s3 q ∧ ∃ hi, PrAt w9 W5.heap.size hi (pick3 l1 l2 l3 q) (V'' q)) := fun w9 k9 =>
              ⟨_, _, _, chg_kept K8 k9, o14n.kept k9, fun q hq => by
                unfold upF
                by_cases hqj : q = j
                · subst hqj
                  rw [if_pos rfl, if_pos rfl, if_pos rfl]
                  exact ⟨HNJ.out.symm, HSJ.out.symm, w30.heap.size, by rw [HLJ.out]; exact (prU8.kept k9).lo (by omega)⟩
                · rw [if_neg hqj, if_neg hqj, if_neg hqj]
                  obtain ⟨h1, h2, hi, h3⟩ := HD8.out q (by omega)
                  exact ⟨h1, h2, hi, h3.kept k9⟩⟩
            have HREL := Lib.hid hrel9; clear hrel9
            by_cases hr0 : 0 < r
            · have d1 : decide ((0 : Int) < (r : Int)) = true := decide_eq_true (by omega)
              have d2 : decide (0 < r) = true := decide_eq_true hr0
              obtain ⟨m', t', U', ob, hU⟩ := HD.out.fst
              obtain ⟨h1, h2, AU', cU', h3, h4⟩ := hU hr0 j hlt3
              have obk := ob.kept KR8
              obtain ⟨x0, x1, x2⟩ := arr3_at obk hlt3
              rw [h1, HNJ.out] at x0; rw [h2, HSJ.out] at x1; rw [h3, HLJ.out] at x2
              rw [HLJ.out] at h4
              have rn4 := h4.kept KR8
              have HR0 := Lib.hid hr0
              clear h1 h2 h3 h4 ob obk hU hr0
              have zt := kept_lt y0; have zt2 := kept_lt x0
              refine region_x (fun w' => Kept W7 w') [] (by kernel_rfl) (kept_drew (kept_refl _)) (fun hHeld => ?_)
              refine x_take (i := 0) (oi := { dst := some 98, op := Op.move (Operand.tmp 12), type := 3, pos := "law.go:262", after := #[], guard := none }) (v := ?_) rfl (by kernel_rfl) (by kernel_rfl) (by kernel_rfl) (by kernel_rfl) (by kernel_rfl) (fun _ _ _ h => h) (Or.inl ⟨rfl, ?_⟩) (by assumption) ?_
              rotate_left
              · (intro w' hSw; replace y0 := kept_cell hSw y0; replace y1 := kept_cell hSw y1; replace y2 := kept_cell hSw y2; replace x0 := kept_cell hSw x0; replace x1 := kept_cell hSw x1; replace x2 := kept_cell hSw x2; go_simp; try with_reducible rfl)
              try simp only [Act.put, List.setIfInBounds_toArray, List.set_cons_zero, List.set_cons_succ]
              refine x_take (i := 1) (oi := { dst := some 99, op := Op.binOp BinOp.gtr 3 (Operand.tmp 98) (Operand.const (Value.int IntKind.i64 0)) 3, type := 4, pos := "law.go:262", after := #[{ on := 0, ground := Ground.data }], guard := none }) (v := ?_) rfl (by kernel_rfl) (by kernel_rfl) (by kernel_rfl) (by kernel_rfl) (by kernel_rfl) (fun _ _ _ h => h) (Or.inl ⟨rfl, ?_⟩) (by assumption) ?_
              rotate_left
              · (intro w' hSw; replace y0 := kept_cell hSw y0; replace y1 := kept_cell hSw y1; replace y2 := kept_cell hSw y2; replace x0 := kept_cell hSw x0; replace x1 := kept_cell hSw x1; replace x2 := kept_cell hSw x2; go_simp; try with_reducible rfl)
              try simp only [Act.put, List.setIfInBounds_toArray, List.set_cons_zero, List.set_cons_succ]
              refine x_take (i := 2) (oi := { dst := some 100, op := Op.move (Operand.tmp 99), type := 4, pos := "law.go:262", after := #[{ on := 1, ground := Ground.data }], guard := none }) (v := ?_) rfl (by kernel_rfl) (by kernel_rfl) (by kernel_rfl) (by kernel_rfl) (by kernel_rfl) (fun _ _ _ h => h) (Or.inl ⟨rfl, ?_⟩) (by assumption) ?_
              rotate_left
              · (intro w' hSw; replace y0 := kept_cell hSw y0; replace y1 := kept_cell hSw y1; replace y2 := kept_cell hSw y2; replace x0 := kept_cell hSw x0; replace x1 := kept_cell hSw x1; replace x2 := kept_cell hSw x2; go_simp; try with_reducible rfl)
              try simp only [Act.put, List.setIfInBounds_toArray, List.set_cons_zero, List.set_cons_succ]
              refine x_take (i := 3) (oi := { dst := some 101, op := Op.move (Operand.tmp 23), type := 3, pos := "law.go:262", after := #[{ on := 2, ground := Ground.guard }], guard := some (2, true) }) (v := ?_) rfl (by kernel_rfl) (by kernel_rfl) (by kernel_rfl) (by kernel_rfl) (by kernel_rfl) (fun _ _ _ h => h) (Or.inl ⟨rfl, ?_⟩) (by assumption) ?_
              rotate_left
              · (intro w' hSw; replace y0 := kept_cell hSw y0; replace y1 := kept_cell hSw y1; replace y2 := kept_cell hSw y2; replace x0 := kept_cell hSw x0; replace x1 := kept_cell hSw x1; replace x2 := kept_cell hSw x2; go_simp; try with_reducible rfl)
              try simp only [Act.put, List.setIfInBounds_toArray, List.set_cons_zero, List.set_cons_succ]
              refine x_take (i := 4) (oi := { dst := some 102, op := Op.indexAddr 70 (Operand.tmp 13) (Operand.tmp 101), type := 0, pos := "law.go:262", after := #[{ on := 3, ground := Ground.data }, { on := 2, ground := Ground.guard }], guard := some (2, true) }) (v := ?_) rfl (by kernel_rfl) (by kernel_rfl) (by kernel_rfl) (by kernel_rfl) (by kernel_rfl) (fun _ _ _ h => h) (Or.inl ⟨rfl, ?_⟩) (by assumption) ?_
              rotate_left
              · (intro w' hSw; replace y0 := kept_cell hSw y0; replace y1 := kept_cell hSw y1; replace y2 := kept_cell hSw y2; replace x0 := kept_cell hSw x0; replace x1 := kept_cell hSw x1; replace x2 := kept_cell hSw x2; go_simp; try with_reducible rfl)
              try simp only [Act.put, List.setIfInBounds_toArray, List.set_cons_zero, List.set_cons_succ]
              refine x_take (i := 5) (oi := { dst := some 103, op := Op.load 24 (Operand.tmp 102), type := 24, pos := "law.go:262", after := #[{ on := 4, ground := Ground.data }, { on := 2, ground := Ground.guard }], guard := some (2, true) }) (v := ?_) rfl (by kernel_rfl) (by kernel_rfl) (by kernel_rfl) (by kernel_rfl) (by kernel_rfl) (fun _ _ _ h => h) (Or.inl ⟨rfl, ?_⟩) (by assumption) ?_
              rotate_left
              · (intro w' hSw; replace y0 := kept_cell hSw y0; replace y1 := kept_cell hSw y1; replace y2 := kept_cell hSw y2; replace x0 := kept_cell hSw x0; replace x1 := kept_cell hSw x1; replace x2 := kept_cell hSw x2; go_simp; try with_reducible rfl)
              try simp only [Act.put, List.setIfInBounds_toArray, List.set_cons_zero, List.set_cons_succ]
              refine x_take (i := 6) (oi := { dst := some 104, op := Op.move (Operand.tmp 23), type := 3, pos := "law.go:262", after := #[{ on := 2, ground := Ground.guard }], guard := some (2, true) }) (v := ?_) rfl (by kernel_rfl) (by kernel_rfl) (by kernel_rfl) (by kernel_rfl) (by kernel_rfl) (fun _ _ _ h => h) (Or.inl ⟨rfl, ?_⟩) (by assumption) ?_
              rotate_left
              · (intro w' hSw; replace y0 := kept_cell hSw y0; replace y1 := kept_cell hSw y1; replace y2 := kept_cell hSw y2; replace x0 := kept_cell hSw x0; replace x1 := kept_cell hSw x1; replace x2 := kept_cell hSw x2; go_simp; try with_reducible rfl)
              try simp only [Act.put, List.setIfInBounds_toArray, List.set_cons_zero, List.set_cons_succ]
              refine x_take (i := 7) (oi := { dst := some 105, op := Op.indexAddr 70 (Operand.tmp 10) (Operand.tmp 104), type := 0, pos := "law.go:262", after := #[{ on := 6, ground := Ground.data }, { on := 2, ground := Ground.guard }], guard := some (2, true) }) (v := ?_) rfl (by kernel_rfl) (by kernel_rfl) (by kernel_rfl) (by kernel_rfl) (by kernel_rfl) (fun _ _ _ h => h) (Or.inl ⟨rfl, ?_⟩) (by assumption) ?_
              rotate_left
              · (intro w' hSw; replace y0 := kept_cell hSw y0; replace y1 := kept_cell hSw y1; replace y2 := kept_cell hSw y2; replace x0 := kept_cell hSw x0; replace x1 := kept_cell hSw x1; replace x2 := kept_cell hSw x2; go_simp; try with_reducible rfl)
              try simp only [Act.put, List.setIfInBounds_toArray, List.set_cons_zero, List.set_cons_succ]
              refine x_take (i := 8) (oi := { dst := some 106, op := Op.load 24 (Operand.tmp 105), type := 24, pos := "law.go:262", after := #[{ on := 7, ground := Ground.data }, { on := 2, ground := Ground.guard }], guard := some (2, true) }) (v := ?_) rfl (by kernel_rfl) (by kernel_rfl) (by kernel_rfl) (by kernel_rfl) (by kernel_rfl) (fun _ _ _ h => h) (Or.inl ⟨rfl, ?_⟩) (by assumption) ?_
              rotate_left
              · (intro w' hSw; replace y0 := kept_cell hSw y0; replace y1 := kept_cell hSw y1; replace y2 := kept_cell hSw y2; replace x0 := kept_cell hSw x0; replace x1 := kept_cell hSw x1; replace x2 := kept_cell hSw x2; go_simp; try with_reducible rfl)
              try simp only [Act.put, List.setIfInBounds_toArray, List.set_cons_zero, List.set_cons_succ]
              refine x_one (i := 9) (o := { dst := some 107, op := Op.call { callee := Callee.value (Operand.func 50), args := #[Operand.tmp 103, Operand.tmp 106], argTypes := #[24, 24] }, type := 4, pos := "law.go:262", after := #[{ on := 5, ground := Ground.data }, { on := 8, ground := Ground.data }, { on := 2, ground := Ground.chain }, { on := 2, ground := Ground.guard }], guard := some (2, true) }) (by kernel_rfl) rfl (fun K hK => ?_)
              (go_simp; go_at_call 50; (with_reducible refine (same50_eq nj sj Aj AU' cj cU' lj _ (by omega) (rnj8.kept hHeld) (rn4.kept hHeld)).mono ?_); rintro e w32 ⟨rfl, k9⟩; have KK9 : Kept W7 w32 := kept_trans hHeld k9; try dsimp only)
              refine hK.out _ _ ?_ (fun hHeld => ?_)
              · (try dsimp only); repeat (first | assumption | exact kept_refl _ | refine kept_drew ?_ | refine kept_alloc ?_ _ | refine kept_set ?_ (by omega) _)
              clear hK K
              try simp only [Act.put, List.setIfInBounds_toArray, List.set_cons_zero, List.set_cons_succ]
              refine x_take (i := 10) (oi := { dst := some 108, op := Op.unOp UnOp.not 4 (Operand.tmp 107), type := 4, pos := "law.go:262", after := #[{ on := 9, ground := Ground.data }, { on := 2, ground := Ground.guard }], guard := some (2, true) }) (v := ?_) rfl (by kernel_rfl) (by kernel_rfl) (by kernel_rfl) (by kernel_rfl) (by kernel_rfl) (fun _ _ _ h => h) (Or.inl ⟨rfl, ?_⟩) (by assumption) ?_
              rotate_left
              · (intro w' hSw; replace y0 := kept_cell hSw y0; replace y1 := kept_cell hSw y1; replace y2 := kept_cell hSw y2; replace x0 := kept_cell hSw x0; replace x1 := kept_cell hSw x1; replace x2 := kept_cell hSw x2; go_simp; try with_reducible rfl)
              try simp only [Act.put, List.setIfInBounds_toArray, List.set_cons_zero, List.set_cons_succ]
              refine x_take (i := 11) (oi := { dst := some 109, op := Op.pick (Operand.tmp 100) (Operand.tmp 108) (Operand.const (Value.bool false)), type := 4, pos := "law.go:262", after := #[{ on := 2, ground := Ground.data }, { on := 10, ground := Ground.data }], guard := none }) (v := ?_) rfl (by kernel_rfl) (by kernel_rfl) (by kernel_rfl) (by kernel_rfl) (by kernel_rfl) (fun _ _ _ h => h) (Or.inl ⟨rfl, ?_⟩) (by assumption) ?_
              rotate_left
              · (intro w' hSw; replace y0 := kept_cell hSw y0; replace y1 := kept_cell hSw y1; replace y2 := kept_cell hSw y2; replace x0 := kept_cell hSw x0; replace x1 := kept_cell hSw x1; replace x2 := kept_cell hSw x2; go_simp; try with_reducible rfl)
              try simp only [Act.put, List.setIfInBounds_toArray, List.set_cons_zero, List.set_cons_succ]
              refine x_done (by kernel_rfl) ?_ _
              go_wp2_with fail
              obtain ⟨n9, s9, V9, R1, R2, R3⟩ := HREL.out w32 KK9
              go_roundg (3 - (j + 1))
              case rel => exact ⟨j + 1, n9, s9, V9, by omega, rfl, by go_num, R1, R2, R3⟩
              case measure => omega
            · have d1 : decide ((0 : Int) < (r : Int)) = false := decide_eq_false (by omega)
              have d2 : decide (0 < r) = false := decide_eq_false hr0
              have HR0 := Lib.hid hr0
              clear hr0
              have zt := kept_lt y0
              refine region_x (fun w' => Kept W7 w') [] (by kernel_rfl) (kept_drew (kept_refl _)) (fun hHeld => ?_)
              refine x_take (i := 0) (oi := { dst := some 98, op := Op.move (Operand.tmp 12), type := 3, pos := "law.go:262", after := #[], guard := none }) (v := ?_) rfl (by kernel_rfl) (by kernel_rfl) (by kernel_rfl) (by kernel_rfl) (by kernel_rfl) (fun _ _ _ h => h) (Or.inl ⟨rfl, ?_⟩) (by assumption) ?_
              rotate_left
              · (intro w' hSw; replace y0 := kept_cell hSw y0; replace y1 := kept_cell hSw y1; replace y2 := kept_cell hSw y2; go_simp; try with_reducible rfl)
              try simp only [Act.put, List.setIfInBounds_toArray, List.set_cons_zero, List.set_cons_succ]
              refine x_take (i := 1) (oi := { dst := some 99, op := Op.binOp BinOp.gtr 3 (Operand.tmp 98) (Operand.const (Value.int IntKind.i64 0)) 3, type := 4, pos := "law.go:262", after := #[{ on := 0, ground := Ground.data }], guard := none }) (v := ?_) rfl (by kernel_rfl) (by kernel_rfl) (by kernel_rfl) (by kernel_rfl) (by kernel_rfl) (fun _ _ _ h => h) (Or.inl ⟨rfl, ?_⟩) (by assumption) ?_
              rotate_left
              · (intro w' hSw; replace y0 := kept_cell hSw y0; replace y1 := kept_cell hSw y1; replace y2 := kept_cell hSw y2; go_simp; try with_reducible rfl)
              try simp only [Act.put, List.setIfInBounds_toArray, List.set_cons_zero, List.set_cons_succ]
              refine x_take (i := 2) (oi := { dst := some 100, op := Op.move (Operand.tmp 99), type := 4, pos := "law.go:262", after := #[{ on := 1, ground := Ground.data }], guard := none }) (v := ?_) rfl (by kernel_rfl) (by kernel_rfl) (by kernel_rfl) (by kernel_rfl) (by kernel_rfl) (fun _ _ _ h => h) (Or.inl ⟨rfl, ?_⟩) (by assumption) ?_
              rotate_left
              · (intro w' hSw; replace y0 := kept_cell hSw y0; replace y1 := kept_cell hSw y1; replace y2 := kept_cell hSw y2; go_simp; try with_reducible rfl)
              try simp only [Act.put, List.setIfInBounds_toArray, List.set_cons_zero, List.set_cons_succ]
              refine x_take (i := 3) (oi := { dst := some 101, op := Op.move (Operand.tmp 23), type := 3, pos := "law.go:262", after := #[{ on := 2, ground := Ground.guard }], guard := some (2, true) }) (v := undef) rfl (by kernel_rfl) (by kernel_rfl) (by kernel_rfl) (by kernel_rfl) (by kernel_rfl) (fun _ _ _ h => h) (Or.inr ⟨rfl, rfl⟩) (by assumption) ?_
              try simp only [Act.put, List.setIfInBounds_toArray, List.set_cons_zero, List.set_cons_succ]
              refine x_take (i := 4) (oi := { dst := some 102, op := Op.indexAddr 70 (Operand.tmp 13) (Operand.tmp 101), type := 0, pos := "law.go:262", after := #[{ on := 3, ground := Ground.data }, { on := 2, ground := Ground.guard }], guard := some (2, true) }) (v := undef) rfl (by kernel_rfl) (by kernel_rfl) (by kernel_rfl) (by kernel_rfl) (by kernel_rfl) (fun _ _ _ h => h) (Or.inr ⟨rfl, rfl⟩) (by assumption) ?_
              try simp only [Act.put, List.setIfInBounds_toArray, List.set_cons_zero, List.set_cons_succ]
              refine x_take (i := 5) (oi := { dst := some 103, op := Op.load 24 (Operand.tmp 102), type := 24, pos := "law.go:262", after := #[{ on := 4, ground := Ground.data }, { on := 2, ground := Ground.guard }], guard := some (2, true) }) (v := undef) rfl (by kernel_rfl) (by kernel_rfl) (by kernel_rfl) (by kernel_rfl) (by kernel_rfl) (fun _ _ _ h => h) (Or.inr ⟨rfl, rfl⟩) (by assumption) ?_
              try simp only [Act.put, List.setIfInBounds_toArray, List.set_cons_zero, List.set_cons_succ]
              refine x_take (i := 6) (oi := { dst := some 104, op := Op.move (Operand.tmp 23), type := 3, pos := "law.go:262", after := #[{ on := 2, ground := Ground.guard }], guard := some (2, true) }) (v := undef) rfl (by kernel_rfl) (by kernel_rfl) (by kernel_rfl) (by kernel_rfl) (by kernel_rfl) (fun _ _ _ h => h) (Or.inr ⟨rfl, rfl⟩) (by assumption) ?_
              try simp only [Act.put, List.setIfInBounds_toArray, List.set_cons_zero, List.set_cons_succ]
              refine x_take (i := 7) (oi := { dst := some 105, op := Op.indexAddr 70 (Operand.tmp 10) (Operand.tmp 104), type := 0, pos := "law.go:262", after := #[{ on := 6, ground := Ground.data }, { on := 2, ground := Ground.guard }], guard := some (2, true) }) (v := undef) rfl (by kernel_rfl) (by kernel_rfl) (by kernel_rfl) (by kernel_rfl) (by kernel_rfl) (fun _ _ _ h => h) (Or.inr ⟨rfl, rfl⟩) (by assumption) ?_
              try simp only [Act.put, List.setIfInBounds_toArray, List.set_cons_zero, List.set_cons_succ]
              refine x_take (i := 8) (oi := { dst := some 106, op := Op.load 24 (Operand.tmp 105), type := 24, pos := "law.go:262", after := #[{ on := 7, ground := Ground.data }, { on := 2, ground := Ground.guard }], guard := some (2, true) }) (v := undef) rfl (by kernel_rfl) (by kernel_rfl) (by kernel_rfl) (by kernel_rfl) (by kernel_rfl) (fun _ _ _ h => h) (Or.inr ⟨rfl, rfl⟩) (by assumption) ?_
              try simp only [Act.put, List.setIfInBounds_toArray, List.set_cons_zero, List.set_cons_succ]
              refine x_take (i := 9) (oi := { dst := some 107, op := Op.call { callee := Callee.value (Operand.func 50), args := #[Operand.tmp 103, Operand.tmp 106], argTypes := #[24, 24] }, type := 4, pos := "law.go:262", after := #[{ on := 5, ground := Ground.data }, { on := 8, ground := Ground.data }, { on := 2, ground := Ground.chain }, { on := 2, ground := Ground.guard }], guard := some (2, true) }) (v := undef) rfl (by kernel_rfl) (by kernel_rfl) (by kernel_rfl) (by kernel_rfl) (by kernel_rfl) (fun _ _ _ h => h) (Or.inr ⟨rfl, rfl⟩) (by assumption) ?_
              try simp only [Act.put, List.setIfInBounds_toArray, List.set_cons_zero, List.set_cons_succ]
              refine x_take (i := 10) (oi := { dst := some 108, op := Op.unOp UnOp.not 4 (Operand.tmp 107), type := 4, pos := "law.go:262", after := #[{ on := 9, ground := Ground.data }, { on := 2, ground := Ground.guard }], guard := some (2, true) }) (v := undef) rfl (by kernel_rfl) (by kernel_rfl) (by kernel_rfl) (by kernel_rfl) (by kernel_rfl) (fun _ _ _ h => h) (Or.inr ⟨rfl, rfl⟩) (by assumption) ?_
              try simp only [Act.put, List.setIfInBounds_toArray, List.set_cons_zero, List.set_cons_succ]
              refine x_take (i := 11) (oi := { dst := some 109, op := Op.pick (Operand.tmp 100) (Operand.tmp 108) (Operand.const (Value.bool false)), type := 4, pos := "law.go:262", after := #[{ on := 2, ground := Ground.data }, { on := 10, ground := Ground.data }], guard := none }) (v := ?_) rfl (by kernel_rfl) (by kernel_rfl) (by kernel_rfl) (by kernel_rfl) (by kernel_rfl) (fun _ _ _ h => h) (Or.inl ⟨rfl, ?_⟩) (by assumption) ?_
              rotate_left
              · (intro w' hSw; replace y0 := kept_cell hSw y0; replace y1 := kept_cell hSw y1; replace y2 := kept_cell hSw y2; go_simp; try with_reducible rfl)
              try simp only [Act.put, List.setIfInBounds_toArray, List.set_cons_zero, List.set_cons_succ]
              refine x_done (by kernel_rfl) ?_ _
              go_wp2_with fail
              obtain ⟨n9, s9, V9, R1, R2, R3⟩ := HREL.out W7.drew (kept_drew (kept_refl _))
              go_roundg (3 - (j + 1))
              case rel => exact ⟨j + 1, n9, s9, V9, by omega, rfl, by go_num, R1, R2, R3⟩
              case measure => omega
          · have : j = 3 := by omega
            subst this
            have KC6 := kept_chg KC K6 (by omega)
            have b60 := bx0.chg K6 (.inl (by omega)); have b61 := bx1.chg K6 (.inl (by omega))
            have x13 := o13'.chg K6 (.inl (by omega))
            have x15 := o15.chg K6 (.inr (by omega)); have x22 := o22.chg K6 (.inr (by omega))
            have s15 := sr15.chg K6 (.inr (by omega)); have k15 := rk15.chg K6 (.inr (by omega)); have k22 := rk22.chg K6 (.inr (by omega))
            have t17 := row_chg row17 in17 K6 (.inr (by omega)); have t20 := row_chg row20 in20 K6 (.inr (by omega))
            have PP6 : ∀ q, q < 3 → PrAt wr (pick3 wa.heap.size W1.heap.size W2.heap.size q) (pick3 w20.heap.size w21.heap.size w22.heap.size q) (pick3 l1 l2 l3 q) (VV q) := fun q hq => (HPP.out q hq).chg K6 (.inr (by have := (HPL.out q hq).1; omega))
            have HP6 := Lib.hid PP6; clear PP6
            obtain ⟨e00, e01, hi0, B1, d1, eV1, rw1, in1⟩ := HDN.out 0 (by omega)
            obtain ⟨e10, e11, hi1, B2, d2, eV2, rw2, in2⟩ := HDN.out 1 (by omega)
            obtain ⟨e20, e21, hi2, B3, d3, eV3, rw3, in3⟩ := HDN.out 2 (by omega)
            have o14e : Own wr (wo.heap.size + 1) 70 [.int .i64 n1, .int .i64 s1, .slice B1 l1.length d1, .int .i64 n2, .int .i64 s2, .slice B2 l2.length d2, .int .i64 n3, .int .i64 s3, .slice B3 l3.length d3] := by
              have h := o14
              unfold arr3 at h
              rw [e00, e01, eV1, e10, e11, eV2, e20, e21, eV3] at h
              exact h
            have HK1 := Lib.hid (And.intro rw1 (And.intro in1 (And.intro rw2 (And.intro in2 (And.intro rw3 in3)))))
            clear e00 e01 eV1 e10 e11 eV2 e20 e21 eV3 o14 rw1 in1 rw2 in2 rw3 in3
            obtain ⟨m', t', U', ob, _⟩ := HD.out.fst
            obtain ⟨k', u', V', oc, hU⟩ := HD.out.mde
            have zob := oc.lt
            replace ob := ob.kept KR6; replace oc := oc.kept KR6
            have HU := Lib.hid hU; clear hU
            go_upto_region 23 with (fail)
            go_cut [117] (fun s117 wx => s117 = .bool false ∧ Kept wr wx)
            case first =>
              by_cases hr0 : 0 < r
              · have dd1 : decide ((0 : Int) < (r : Int)) = true := decide_eq_true (by omega)
                have dd2 : decide (0 < r) = true := decide_eq_true hr0
                obtain ⟨h1, h2, AU, cU, h3, h4⟩ := HU.out hr0
                rw [h1, h2, h3] at oc
                have y0 := x15.cell (j := 0) rfl; have y1 := x15.cell (j := 1) rfl; have y2 := x15.cell (j := 2) rfl
                have v0 := oc.cell (j := 0) rfl; have v1 := oc.cell (j := 1) rfl; have v2 := oc.cell (j := 2) rfl
                have C := same33_eq (cntF fg) fg A15 AU fg.l.length cU wr (Nat.le_refl _) hfgl k15.rk (h4.kept KR6)
                unfold fmV at C
                clear h1 h2 h3 h4 hr0
                go_wp2_with fail
                (with_reducible refine C.mono ?_)
                rintro e w33 ⟨rfl, k⟩
                go_wp2_with fail
                go_meet
                exact ⟨rfl, k⟩
              · have dd1 : decide ((0 : Int) < (r : Int)) = false := decide_eq_false (by omega)
                have dd2 : decide (0 < r) = false := decide_eq_false hr0
                clear hr0
                go_wp2_with fail
                go_meet
                exact ⟨rfl, kept_refl _⟩
            case rest =>
              obtain ⟨rfl, k⟩ := hcut
              replace KC6 := kept_trans KC6 k
              replace b60 := b60.kept k; replace b61 := b61.kept k; replace x13 := x13.kept k; replace x15 := x15.kept k; replace x22 := x22.kept k; replace s15 := s15.kept k; replace k22 := k22.kept k; replace t17 := row_kept t17 k; replace t20 := row_kept t20 k; replace o14e := o14e.kept k; replace ob := ob.kept k; replace oc := oc.kept k
              have PP7 := fun q hq => (HP6.out q hq).kept k
              obtain ⟨rw1, in1, rw2, in2, rw3, in3⟩ := HK1.out
              replace rw1 := row_kept rw1 k; replace rw2 := row_kept rw2 k; replace rw3 := row_kept rw3 k
              have HP7 := Lib.hid PP7; clear PP7 HP6 HK1
              have zc := k.size
              clear k k15
              have y0 := o14e.cell (j := 0) rfl; have y1 := o14e.cell (j := 1) rfl; have y2 := o14e.cell (j := 2) rfl; have y3 := o14e.cell (j := 3) rfl; have y4 := o14e.cell (j := 4) rfl; have y5 := o14e.cell (j := 5) rfl; have y6 := o14e.cell (j := 6) rfl; have y7 := o14e.cell (j := 7) rfl; have y8 := o14e.cell (j := 8) rfl
              have v0 := x22.cell (j := 0) rfl; have v1 := x22.cell (j := 1) rfl; have v2 := x22.cell (j := 2) rfl
              have f0 := ob.frozen 0; have f1 := ob.frozen 1; have f2 := ob.frozen 2; have f3 := ob.frozen 3; have f4 := ob.frozen 4; have f5 := ob.frozen 5; have f6 := ob.frozen 6; have f7 := ob.frozen 7; have f8 := ob.frozen 8
              have u0 := ob.cell (j := 0) rfl; have u1 := ob.cell (j := 1) rfl; have u2 := ob.cell (j := 2) rfl; have u3 := ob.cell (j := 3) rfl; have u4 := ob.cell (j := 4) rfl; have u5 := ob.cell (j := 5) rfl; have u6 := ob.cell (j := 6) rfl; have u7 := ob.cell (j := 7) rfl; have u8 := ob.cell (j := 8) rfl
              have h0 := oc.cell (j := 0) rfl; have h1 := oc.cell (j := 1) rfl; have h2 := oc.cell (j := 2) rfl; have i0 := oc.frozen 0; have i1 := oc.frozen 1; have i2 := oc.frozen 2
              have S14 := (((((((((o14e.other (a := ⟨w0.heap.size, 0, none⟩) (by dsimp only; omega) (.int .i64 n1)).other (a := ⟨w0.heap.size, 1, none⟩) (by dsimp only; omega) (.int .i64 s1)).other (a := ⟨w0.heap.size, 2, none⟩) (by dsimp only; omega) (.slice B1 l1.length d1)).other (a := ⟨w0.heap.size, 3, none⟩) (by dsimp only; omega) (.int .i64 n2)).other (a := ⟨w0.heap.size, 4, none⟩) (by dsimp only; omega) (.int .i64 s2)).other (a := ⟨w0.heap.size, 5, none⟩) (by dsimp only; omega) (.slice B2 l2.length d2)).other (a := ⟨w0.heap.size, 6, none⟩) (by dsimp only; omega) (.int .i64 n3)).other (a := ⟨w0.heap.size, 7, none⟩) (by dsimp only; omega) (.int .i64 s3)).other (a := ⟨w0.heap.size, 8, none⟩) (by dsimp only; omega) (.slice B3 l3.length d3))
              have S22 := (((((((((x22.other (a := ⟨w0.heap.size, 0, none⟩) (by dsimp only; omega) (.int .i64 n1)).other (a := ⟨w0.heap.size, 1, none⟩) (by dsimp only; omega) (.int .i64 s1)).other (a := ⟨w0.heap.size, 2, none⟩) (by dsimp only; omega) (.slice B1 l1.length d1)).other (a := ⟨w0.heap.size, 3, none⟩) (by dsimp only; omega) (.int .i64 n2)).other (a := ⟨w0.heap.size, 4, none⟩) (by dsimp only; omega) (.int .i64 s2)).other (a := ⟨w0.heap.size, 5, none⟩) (by dsimp only; omega) (.slice B2 l2.length d2)).other (a := ⟨w0.heap.size, 6, none⟩) (by dsimp only; omega) (.int .i64 n3)).other (a := ⟨w0.heap.size, 7, none⟩) (by dsimp only; omega) (.int .i64 s3)).other (a := ⟨w0.heap.size, 8, none⟩) (by dsimp only; omega) (.slice B3 l3.length d3))
              have ya := kept_lt y0; have va := kept_lt v0
              clear y0 y1 y2 y3 y4 y5 y6 y7 y8 v0 v1 v2
              go_wp2_with fail
              refine region_x (fun w' => Own w' (wo.heap.size + 1) 70 [.int .i64 n1, .int .i64 s1, .slice B1 l1.length d1, .int .i64 n2, .int .i64 s2, .slice B2 l2.length d2, .int .i64 n3, .int .i64 s3, .slice B3 l3.length d3] ∧ Own w' w26.heap.size 52 [.int .i64 fg.k, .int .i64 fg.n, .slice A22 fg.l.length c22]) [3] (by kernel_rfl) ?_ (fun hHeld => ?_)
              · exact ⟨o14e.drew, x22.drew⟩
              refine x_take (i := 0) (oi := { dst := some 118, op := Op.load 70 (Operand.tmp 14), type := 70, pos := "law.go:269", after := #[], guard := none }) (v := ?_) rfl (by kernel_rfl) (by kernel_rfl) (by kernel_rfl) (by kernel_rfl) (by kernel_rfl) (fun _ _ _ h => h) (Or.inl ⟨rfl, ?_⟩) (by assumption) ?_
              rotate_left
              · (intro w' hSw; obtain ⟨hSa, hSb⟩ := hSw; have y0 := hSa.cell (j := 0) rfl; have y1 := hSa.cell (j := 1) rfl; have y2 := hSa.cell (j := 2) rfl; have y3 := hSa.cell (j := 3) rfl; have y4 := hSa.cell (j := 4) rfl; have y5 := hSa.cell (j := 5) rfl; have y6 := hSa.cell (j := 6) rfl; have y7 := hSa.cell (j := 7) rfl; have y8 := hSa.cell (j := 8) rfl; have v0 := hSb.cell (j := 0) rfl; have v1 := hSb.cell (j := 1) rfl; have v2 := hSb.cell (j := 2) rfl; go_simp; try with_reducible rfl)
              try simp only [Act.put, List.setIfInBounds_toArray, List.set_cons_zero, List.set_cons_succ]
              refine x_take (i := 1) (oi := { dst := some 119, op := Op.load 52 (Operand.tmp 22), type := 52, pos := "law.go:269", after := #[{ on := 2, ground := Ground.gcOnly Departure.lateStores }], guard := none }) (v := ?_) rfl (by kernel_rfl) (by kernel_rfl) (by kernel_rfl) (by kernel_rfl) (by kernel_rfl) (fun _ _ _ h => h) (Or.inl ⟨rfl, ?_⟩) (by assumption) ?_
              rotate_left
              · (intro w' hSw; obtain ⟨hSa, hSb⟩ := hSw; have y0 := hSa.cell (j := 0) rfl; have y1 := hSa.cell (j := 1) rfl; have y2 := hSa.cell (j := 2) rfl; have y3 := hSa.cell (j := 3) rfl; have y4 := hSa.cell (j := 4) rfl; have y5 := hSa.cell (j := 5) rfl; have y6 := hSa.cell (j := 6) rfl; have y7 := hSa.cell (j := 7) rfl; have y8 := hSa.cell (j := 8) rfl; have v0 := hSb.cell (j := 0) rfl; have v1 := hSb.cell (j := 1) rfl; have v2 := hSb.cell (j := 2) rfl; go_simp; try with_reducible rfl)
              try simp only [Act.put, List.setIfInBounds_toArray, List.set_cons_zero, List.set_cons_succ]
              refine x_one (i := 2) (o := { dst := none, op := Op.store 70 (Operand.tmp 10) (Operand.tmp 118), type := 0, pos := "law.go:269", after := #[{ on := 0, ground := Ground.data }, { on := 0, ground := Ground.phase }, { on := 1, ground := Ground.textOnly Departure.lateStores }], guard := none }) (by kernel_rfl) rfl (fun K hK => ?_)
              go_simp
              refine hK.out _ _ ?_ (fun hHeld => ?_)
              · (try dsimp only); exact ⟨S14.drew, S22.drew⟩
              clear hK K
              try simp only [Act.put, List.setIfInBounds_toArray, List.set_cons_zero, List.set_cons_succ]
              refine x_last (i := 3) (o := { dst := none, op := Op.store 52 (Operand.tmp 11) (Operand.tmp 119), type := 0, pos := "law.go:269", after := #[{ on := 1, ground := Ground.data }, { on := 2, ground := Ground.chain }, { on := 0, ground := Ground.phase }, { on := 1, ground := Ground.phase }, { on := 2, ground := Ground.phase }], guard := none }) (by kernel_rfl) rfl (by simp) (fun K hK => ?_)
              go_simp
              refine hK.out _ _ ?_
              clear hK K
              try simp only [Act.put, List.setIfInBounds_toArray, List.set_cons_zero, List.set_cons_succ]
              refine x_done (by kernel_rfl) ?_ _
              have W9K := kept_drew (kept_set (g := w0.heap.size + 1) (j := 2) (kept_set (g := w0.heap.size + 1) (j := 1) (kept_set (g := w0.heap.size + 1) (j := 0) (kept_set (g := w0.heap.size) (j := 8) (kept_set (g := w0.heap.size) (j := 7) (kept_set (g := w0.heap.size) (j := 6) (kept_set (g := w0.heap.size) (j := 5) (kept_set (g := w0.heap.size) (j := 4) (kept_set (g := w0.heap.size) (j := 3) (kept_set (g := w0.heap.size) (j := 2) (kept_set (g := w0.heap.size) (j := 1) (kept_set (g := w0.heap.size) (j := 0) KC6 (by omega) (.int .i64 n1)) (by omega) (.int .i64 s1)) (by omega) (.slice B1 l1.length d1)) (by omega) (.int .i64 n2)) (by omega) (.int .i64 s2)) (by omega) (.slice B2 l2.length d2)) (by omega) (.int .i64 n3)) (by omega) (.int .i64 s3)) (by omega) (.slice B3 l3.length d3)) (by omega) (.int .i64 fg.k)) (by omega) (.int .i64 fg.n)) (by omega) (.slice A22 fg.l.length c22))
              have W9C : Chg w0.heap.size (w0.heap.size + 2) wc _ := chg_kept (chg_set (chg_set (chg_set (chg_set (chg_set (chg_set (chg_set (chg_set (chg_set (chg_set (chg_set (chg_set (chg_refl w0.heap.size (w0.heap.size + 2) wc) (g := w0.heap.size) (.inl (by omega)) 0 (.int .i64 n1)) (g := w0.heap.size) (.inl (by omega)) 1 (.int .i64 s1)) (g := w0.heap.size) (.inl (by omega)) 2 (.slice B1 l1.length d1)) (g := w0.heap.size) (.inl (by omega)) 3 (.int .i64 n2)) (g := w0.heap.size) (.inl (by omega)) 4 (.int .i64 s2)) (g := w0.heap.size) (.inl (by omega)) 5 (.slice B2 l2.length d2)) (g := w0.heap.size) (.inl (by omega)) 6 (.int .i64 n3)) (g := w0.heap.size) (.inl (by omega)) 7 (.int .i64 s3)) (g := w0.heap.size) (.inl (by omega)) 8 (.slice B3 l3.length d3)) (g := w0.heap.size + 1) (.inl (by omega)) 0 (.int .i64 fg.k)) (g := w0.heap.size + 1) (.inl (by omega)) 1 (.int .i64 fg.n)) (g := w0.heap.size + 1) (.inl (by omega)) 2 (.slice A22 fg.l.length c22)) (kept_drew (kept_refl _))
              have b10 := ((((((((((((ob.set 0 (.int .i64 n1)).set 1 (.int .i64 s1)).set 2 (.slice B1 l1.length d1)).set 3 (.int .i64 n2)).set 4 (.int .i64 s2)).set 5 (.slice B2 l2.length d2)).set 6 (.int .i64 n3)).set 7 (.int .i64 s3)).set 8 (.slice B3 l3.length d3)).other (a := ⟨w0.heap.size + 1, 0, none⟩) (by dsimp only; omega) (.int .i64 fg.k)).other (a := ⟨w0.heap.size + 1, 1, none⟩) (by dsimp only; omega) (.int .i64 fg.n)).other (a := ⟨w0.heap.size + 1, 2, none⟩) (by dsimp only; omega) (.slice A22 fg.l.length c22)).drew
              have b11 := ((((((((((((oc.other (a := ⟨w0.heap.size, 0, none⟩) (by dsimp only; omega) (.int .i64 n1)).other (a := ⟨w0.heap.size, 1, none⟩) (by dsimp only; omega) (.int .i64 s1)).other (a := ⟨w0.heap.size, 2, none⟩) (by dsimp only; omega) (.slice B1 l1.length d1)).other (a := ⟨w0.heap.size, 3, none⟩) (by dsimp only; omega) (.int .i64 n2)).other (a := ⟨w0.heap.size, 4, none⟩) (by dsimp only; omega) (.int .i64 s2)).other (a := ⟨w0.heap.size, 5, none⟩) (by dsimp only; omega) (.slice B2 l2.length d2)).other (a := ⟨w0.heap.size, 6, none⟩) (by dsimp only; omega) (.int .i64 n3)).other (a := ⟨w0.heap.size, 7, none⟩) (by dsimp only; omega) (.int .i64 s3)).other (a := ⟨w0.heap.size, 8, none⟩) (by dsimp only; omega) (.slice B3 l3.length d3)).set 0 (.int .i64 fg.k)).set 1 (.int .i64 fg.n)).set 2 (.slice A22 fg.l.length c22)).drew
              obtain ⟨W9, hW9⟩ : ∃ x, x = ((((((((((((wc.setCell ⟨w0.heap.size, 0, none⟩ (.int .i64 n1)).setCell ⟨w0.heap.size, 1, none⟩ (.int .i64 s1)).setCell ⟨w0.heap.size, 2, none⟩ (.slice B1 l1.length d1)).setCell ⟨w0.heap.size, 3, none⟩ (.int .i64 n2)).setCell ⟨w0.heap.size, 4, none⟩ (.int .i64 s2)).setCell ⟨w0.heap.size, 5, none⟩ (.slice B2 l2.length d2)).setCell ⟨w0.heap.size, 6, none⟩ (.int .i64 n3)).setCell ⟨w0.heap.size, 7, none⟩ (.int .i64 s3)).setCell ⟨w0.heap.size, 8, none⟩ (.slice B3 l3.length d3)).setCell ⟨w0.heap.size + 1, 0, none⟩ (.int .i64 fg.k)).setCell ⟨w0.heap.size + 1, 1, none⟩ (.int .i64 fg.n)).setCell ⟨w0.heap.size + 1, 2, none⟩ (.slice A22 fg.l.length c22)).drew := ⟨_, rfl⟩
              rw [← hW9] at W9K W9C b10 b11 ⊢
              clear hW9 S14 S22 ob oc f0 f1 f2 f3 f4 f5 f6 f7 f8 u0 u1 u2 u3 u4 u5 u6 u7 u8 h0 h1 h2 i0 i1 i2 KC6
              have b60' := b60.chg W9C (.inl (by omega)); have b61' := b61.chg W9C (.inl (by omega))
              have x13' := x13.chg W9C (.inr (by omega)); have x14' := o14e.chg W9C (.inr (by omega)); have x15' := x15.chg W9C (.inr (by omega))
              have s15' := s15.chg W9C (.inr (by omega)); have k22' := k22.chg W9C (.inr (by omega))
              have t17' := row_chg t17 in17 W9C (.inr (by omega)); have t20' := row_chg t20 in20 W9C (.inr (by omega))
              have rw1' := row_chg rw1 in1 W9C (.inr (by omega)); have rw2' := row_chg rw2 in2 W9C (.inr (by omega)); have rw3' := row_chg rw3 in3 W9C (.inr (by omega))
              have PP9 := fun q hq => (HP7.out q hq).chg W9C (.inr (by have := (HPL.out q hq).1; omega))
              have HP9 := Lib.hid PP9; clear PP9 HP7
              have z9 := W9C.size
              clear b60 b61 x13 o14e x15 s15 k22 t17 t20 rw1 rw2 rw3
              have y0 := x15'.cell (j := 0) rfl; have y1 := x15'.cell (j := 1) rfl; have y2 := x15'.cell (j := 2) rfl
              go_wp2_with fail
              (with_reducible refine (spoil51_any W3.heap.size w23.heap.size dp fg.k fg.n A15 fg.l.length W9 s15' (by omega)).mono ?_)
              rintro e w40 ⟨rfl, sp⟩
              have G1 : Chg W3.heap.size w25.heap.size W9 w40 := chg_mono sp.chg (Nat.le_refl _) (by omega)
              replace t17' := row_chg t17' in17 sp.chg (.inr (by omega)); replace t20' := row_chg t20' in20 sp.chg (.inr (by omega))
              have zg1 := G1.size
              clear sp s15' y0 y1 y2 x15'
              go_wp2_with fail
              (with_reducible refine (spoilBools_any W4.heap.size w24.heap.size W4.heap.size A17 c17 tb w40 t17' in17 (by omega) (by omega)).mono ?_)
              rintro e w41 ⟨rfl, g2⟩
              have G2 := chg_trans G1 (chg_mono g2 (by omega) (by omega) : Chg W3.heap.size w25.heap.size w40 w41)
              replace t20' := row_chg t20' in20 g2 (.inr (by omega))
              have zg2 := g2.size
              clear g2 t17' G1
              go_wp2_with fail
              (with_reducible refine (spoilInts_any w24.heap.size w25.heap.size w24.heap.size A20 c20 pt w41 t20' in20 (by omega) (by omega)).mono ?_)
              rintro e w42 ⟨rfl, g3⟩
              have G3 := chg_trans G2 (chg_mono g3 (by omega) (by omega) : Chg W3.heap.size w25.heap.size w41 w42)
              have zg3 := g3.size
              clear g3 t20' G2
              have KD := kept_chg W9K G3 (by omega)
              replace b60' := b60'.chg G3 (.inl (by omega)); replace b61' := b61'.chg G3 (.inl (by omega)); replace x13' := x13'.chg G3 (.inl (by omega)); replace x14' := x14'.chg G3 (.inl (by omega)); replace b10 := b10.chg G3 (.inl (by omega)); replace b11 := b11.chg G3 (.inl (by omega))
              replace k22' := k22'.chg G3 (.inr (by omega))
              replace rw1' := row_chg rw1' in1 G3 (.inr (by omega)); replace rw2' := row_chg rw2' in2 G3 (.inr (by omega)); replace rw3' := row_chg rw3' in3 G3 (.inr (by omega))
              have PPa := fun q hq => (HP9.out q hq).chg G3 (.inl (by have := (HPL.out q hq).2.1; omega))
              have HPa := Lib.hid PPa; clear PPa HP9 G3 W9C W9K
              go_wp2_with fail
              obtain ⟨BV, hBV⟩ : ∃ BV : Nat → Value, BV = pick3 (.slice B1 l1.length d1) (.slice B2 l2.length d2) (.slice B3 l3.length d3) := ⟨_, rfl⟩
              have PK : ∀ q, q < 3 → ∃ hi, PrAt w42 W5.heap.size hi (pick3 l1 l2 l3 q) (BV q) := fun q hq => by
                rw [hBV]
                rcases (show q = 0 ∨ q = 1 ∨ q = 2 by omega) with rfl | rfl | rfl
                · exact ⟨hi0, B1, d1, rfl, rw1', in1⟩
                · exact ⟨hi1, B2, d2, rfl, rw2', in2⟩
                · exact ⟨hi2, B3, d3, rfl, rw3', in3⟩
              have xk : Own w42 (wo.heap.size + 1) 70 (arr3 (pick3 n1 n2 n3) (pick3 s1 s2 s3) BV) := by rw [hBV]; exact x14'
              have b10k : Own w42 w0.heap.size 70 (arr3 (pick3 n1 n2 n3) (pick3 s1 s2 s3) BV) := by rw [hBV]; exact b10
              have HPK := Lib.hid PK
              clear hBV PK rw1' rw2' rw3' in1 in2 in3 x14' b10
              have z42 : W3.heap.size ≤ w42.heap.size ∧ W5.heap.size ≤ w42.heap.size := by omega
              go_loopg [24] 3 (fun g' s24 w6 => ∃ j : Nat, j ≤ 3 ∧ g' = 3 - j ∧ s24 = .int .i64 j ∧ Chg (wo.heap.size + 2) W3.heap.size w42 w6 ∧ (∀ q, j ≤ q → q < 3 → PrAt w6 (pick3 wa.heap.size W1.heap.size W2.heap.size q) (pick3 w20.heap.size w21.heap.size w22.heap.size q) (pick3 l1 l2 l3 q) (VV q)))
              case atStart => exact ⟨0, by omega, rfl, rfl, chg_refl _ _ _, fun q _ hq => HPa.out q hq⟩
              case round =>
                obtain ⟨j, hj, rfl, rfl, K10, hrest⟩ := hrel
                have HRS := Lib.hid hrest; clear hrest
                have z10 := K10.size
                by_cases hlt3 : j < 3
                · obtain ⟨Aj, cj, eV, rwj, inj⟩ := HRS.out j (Nat.le_refl _) hlt3
                  have hpl := HPL.out j hlt3
                  have x13j := x13'.chg K10 (.inl (by omega))
                  have xkj := xk.chg K10 (.inl (by omega))
                  obtain ⟨y0, y1, y2⟩ := arr3_at x13j hlt3
                  obtain ⟨v0, v1, v2⟩ := arr3_at xkj hlt3
                  obtain ⟨hik, PKj⟩ := HPK.out j hlt3
                  obtain ⟨Bj, dj, eB, rwb, inb⟩ := PKj
                  replace rwb := row_chg rwb inb K10 (.inr (by omega))
                  rw [eV] at y2; rw [eB] at v2
                  have e0 : (0 : Int) ≤ (j : Int) := by omega
                  have e1 : (j : Int) < 3 := by omega
                  clear eV eB inb
                  obtain ⟨loj, hlo⟩ : ∃ x, x = pick3 wa.heap.size W1.heap.size W2.heap.size j := ⟨_, rfl⟩
                  obtain ⟨hij, hhi⟩ : ∃ x, x = pick3 w20.heap.size w21.heap.size w22.heap.size j := ⟨_, rfl⟩
                  rw [← hlo] at rwj inj hpl; rw [← hhi] at inj hpl
                  have HLO := Lib.hid (And.intro hlo hhi); clear hlo hhi
                  generalize hnj : pick3 n1 n2 n3 j = nj at *
                  generalize hsj : pick3 s1 s2 s3 j = sj at *
                  generalize hlj2 : pick3 l1 l2 l3 j = lj at *
                  have HLJ := Lib.hid hlj2
                  clear hnj hsj hlj2
                  have hlj : lj.length ≤ 20001 := by rw [← HLJ.out]; exact HLL.out j hlt3
                  have zt := kept_lt y0; have zt2 := kept_lt v0
                  go_wp2_with fail
                  refine region_x (fun w' => Kept wr w') [] (by kernel_rfl) (kept_drew (kept_refl _)) (fun hHeld => ?_)
                  refine x_take (i := 0) (oi := { dst := some 130, op := Op.move (Operand.tmp 24), type := 3, pos := "law.go:274", after := #[], guard := none }) (v := ?_) rfl (by kernel_rfl) (by kernel_rfl) (by kernel_rfl) (by kernel_rfl) (by kernel_rfl) (fun _ _ _ h => h) (Or.inl ⟨rfl, ?_⟩) (by assumption) ?_
                  rotate_left
                  · (intro w' hSw; replace y0 := kept_cell hSw y0; replace y1 := kept_cell hSw y1; replace y2 := kept_cell hSw y2; replace v0 := kept_cell hSw v0; replace v1 := kept_cell hSw v1; replace v2 := kept_cell hSw v2; go_simp; try with_reducible rfl)
                  try simp only [Act.put, List.setIfInBounds_toArray, List.set_cons_zero, List.set_cons_succ]
                  refine x_take (i := 1) (oi := { dst := some 131, op := Op.indexAddr 70 (Operand.tmp 13) (Operand.tmp 130), type := 0, pos := "law.go:274", after := #[{ on := 0, ground := Ground.data }], guard := none }) (v := ?_) rfl (by kernel_rfl) (by kernel_rfl) (by kernel_rfl) (by kernel_rfl) (by kernel_rfl) (fun _ _ _ h => h) (Or.inl ⟨rfl, ?_⟩) (by assumption) ?_
                  rotate_left
                  · (intro w' hSw; replace y0 := kept_cell hSw y0; replace y1 := kept_cell hSw y1; replace y2 := kept_cell hSw y2; replace v0 := kept_cell hSw v0; replace v1 := kept_cell hSw v1; replace v2 := kept_cell hSw v2; go_simp; try with_reducible rfl)
                  try simp only [Act.put, List.setIfInBounds_toArray, List.set_cons_zero, List.set_cons_succ]
                  refine x_take (i := 2) (oi := { dst := some 132, op := Op.load 24 (Operand.tmp 131), type := 24, pos := "law.go:274", after := #[{ on := 1, ground := Ground.data }], guard := none }) (v := ?_) rfl (by kernel_rfl) (by kernel_rfl) (by kernel_rfl) (by kernel_rfl) (by kernel_rfl) (fun _ _ _ h => h) (Or.inl ⟨rfl, ?_⟩) (by assumption) ?_
                  rotate_left
                  · (intro w' hSw; replace y0 := kept_cell hSw y0; replace y1 := kept_cell hSw y1; replace y2 := kept_cell hSw y2; replace v0 := kept_cell hSw v0; replace v1 := kept_cell hSw v1; replace v2 := kept_cell hSw v2; go_simp; try with_reducible rfl)
                  try simp only [Act.put, List.setIfInBounds_toArray, List.set_cons_zero, List.set_cons_succ]
                  refine x_take (i := 3) (oi := { dst := some 133, op := Op.move (Operand.tmp 24), type := 3, pos := "law.go:274", after := #[], guard := none }) (v := ?_) rfl (by kernel_rfl) (by kernel_rfl) (by kernel_rfl) (by kernel_rfl) (by kernel_rfl) (fun _ _ _ h => h) (Or.inl ⟨rfl, ?_⟩) (by assumption) ?_
                  rotate_left
                  · (intro w' hSw; replace y0 := kept_cell hSw y0; replace y1 := kept_cell hSw y1; replace y2 := kept_cell hSw y2; replace v0 := kept_cell hSw v0; replace v1 := kept_cell hSw v1; replace v2 := kept_cell hSw v2; go_simp; try with_reducible rfl)
                  try simp only [Act.put, List.setIfInBounds_toArray, List.set_cons_zero, List.set_cons_succ]
                  refine x_take (i := 4) (oi := { dst := some 134, op := Op.indexAddr 70 (Operand.tmp 14) (Operand.tmp 133), type := 0, pos := "law.go:274", after := #[{ on := 3, ground := Ground.data }], guard := none }) (v := ?_) rfl (by kernel_rfl) (by kernel_rfl) (by kernel_rfl) (by kernel_rfl) (by kernel_rfl) (fun _ _ _ h => h) (Or.inl ⟨rfl, ?_⟩) (by assumption) ?_
                  rotate_left
                  · (intro w' hSw; replace y0 := kept_cell hSw y0; replace y1 := kept_cell hSw y1; replace y2 := kept_cell hSw y2; replace v0 := kept_cell hSw v0; replace v1 := kept_cell hSw v1; replace v2 := kept_cell hSw v2; go_simp; try with_reducible rfl)
                  try simp only [Act.put, List.setIfInBounds_toArray, List.set_cons_zero, List.set_cons_succ]
                  refine x_take (i := 5) (oi := { dst := some 135, op := Op.load 24 (Operand.tmp 134), type := 24, pos := "law.go:274", after := #[{ on := 4, ground := Ground.data }], guard := none }) (v := ?_) rfl (by kernel_rfl) (by kernel_rfl) (by kernel_rfl) (by kernel_rfl) (by kernel_rfl) (fun _ _ _ h => h) (Or.inl ⟨rfl, ?_⟩) (by assumption) ?_
                  rotate_left
                  · (intro w' hSw; replace y0 := kept_cell hSw y0; replace y1 := kept_cell hSw y1; replace y2 := kept_cell hSw y2; replace v0 := kept_cell hSw v0; replace v1 := kept_cell hSw v1; replace v2 := kept_cell hSw v2; go_simp; try with_reducible rfl)
                  try simp only [Act.put, List.setIfInBounds_toArray, List.set_cons_zero, List.set_cons_succ]
                  refine x_one (i := 6) (o := { dst := some 136, op := Op.call { callee := Callee.value (Operand.func 50), args := #[Operand.tmp 132, Operand.tmp 135], argTypes := #[24, 24] }, type := 4, pos := "law.go:274", after := #[{ on := 2, ground := Ground.data }, { on := 5, ground := Ground.data }], guard := none }) (by kernel_rfl) rfl (fun K hK => ?_)
                  (go_simp; go_at_call 50; (with_reducible refine (same50_eq nj sj Aj Bj cj dj lj _ (by omega) (Rd.kept (row_rd rwj) hHeld) (Rd.kept (row_rd rwb) hHeld)).mono ?_); rintro e w50 ⟨rfl, k9⟩; have KK9 : Kept wr w50 := kept_trans hHeld k9; try dsimp only)
                  refine hK.out _ _ ?_ (fun hHeld => ?_)
                  · (try dsimp only); repeat (first | assumption | exact kept_refl _ | refine kept_drew ?_ | refine kept_alloc ?_ _ | refine kept_set ?_ (by omega) _)
                  clear hK K
                  try simp only [Act.put, List.setIfInBounds_toArray, List.set_cons_zero, List.set_cons_succ]
                  refine x_take (i := 7) (oi := { dst := some 137, op := Op.unOp UnOp.not 4 (Operand.tmp 136), type := 4, pos := "law.go:274", after := #[{ on := 6, ground := Ground.data }], guard := none }) (v := ?_) rfl (by kernel_rfl) (by kernel_rfl) (by kernel_rfl) (by kernel_rfl) (by kernel_rfl) (fun _ _ _ h => h) (Or.inl ⟨rfl, ?_⟩) (by assumption) ?_
                  rotate_left
                  · (intro w' hSw; replace y0 := kept_cell hSw y0; replace y1 := kept_cell hSw y1; replace y2 := kept_cell hSw y2; replace v0 := kept_cell hSw v0; replace v1 := kept_cell hSw v1; replace v2 := kept_cell hSw v2; go_simp; try with_reducible rfl)
                  try simp only [Act.put, List.setIfInBounds_toArray, List.set_cons_zero, List.set_cons_succ]
                  refine x_done (by kernel_rfl) ?_ _
                  replace y0 := kept_cell KK9 y0; replace y1 := kept_cell KK9 y1; replace y2 := kept_cell KK9 y2
                  clear v0 v1 v2
                  have zk9 := KK9.size
                  go_wp2_with fail
                  (with_reducible refine (spoil54_any loj hij loj nj sj Aj cj lj.length (ndCells lj) w50 (row_kept rwj KK9) inj (by omega) (by omega) (by omega)).mono ?_)
                  rintro e w51 ⟨rfl, gj⟩
                  go_wp2_with fail
                  go_roundg (3 - (j + 1))
                  case rel => exact ⟨j + 1, by omega, rfl, by go_num, chg_trans (chg_kept K10 KK9) (chg_mono gj (by omega) (by omega)), fun q h1 h2 => ((HRS.out q (by omega) h2).kept KK9).chg gj (.inr (by have := HPD.out j q (by omega) h2; have := HLO.out.2; omega))⟩
                  case measure => omega
                · have : j = 3 := by omega
                  subst this
                  have KE := kept_chg KD K10 (by omega)
                  have bb0 := b60'.chg K10 (.inl (by omega)); have bb1 := b61'.chg K10 (.inl (by omega))
                  have bb7 := o7.kept KE; have bb8 := o8.kept KE
                  have b10' := b10k.chg K10 (.inl (by omega)); have b11' := b11.chg K10 (.inl (by omega))
                  have kk22 := k22'.chg K10 (.inr (by omega))
                  have PKf : ∀ q, q < 3 → ∃ A c, BV q = .slice A (pick3 l1 l2 l3 q).length c ∧ RN wr A (pick3 l1 l2 l3 q) := fun q hq => by
                    obtain ⟨hi, h⟩ := HPK.out q hq
                    exact (h.chg K10 (.inr (by omega))).rn
                  have HPF := Lib.hid PKf; clear PKf
                  obtain ⟨hrc, hfc2, hxc, rn7, rk8, rd9⟩ := H0.out
                  have C50 := same50_eq i s A A7 c c7 l wr (by omega) (Rd.kept hrc KE) (Rd.kept rn7 KE)
                  have C33 := fun (w' : World) (k : Kept wr w') => same33_eq (cntF f) f B A8 d c8 w' (Nat.le_refl _) hfl ((hfc2.kept KE).kept k) ((rk8.kept KE).kept k)
                  have C30 := fun (w' : World) (k : Kept wr w') => samebools_any X A9 nx nx cx c9 x x w' ((hxc.kept KE).kept k) ((rd9.kept KE).kept k) HNX.out HNX.out (by omega)
                  rw [decide_eq_true rfl] at C30
                  unfold fmV at C33
                  have HC50 := Lib.hid C50; have HC33 := Lib.hid C33; have HC30 := Lib.hid C30
                  clear hrc hfc2 hxc rn7 rk8 rd9 C50 C33 C30
                  have q0 := bb0.cell (j := 0) rfl; have q1 := bb0.cell (j := 1) rfl; have q2 := bb0.cell (j := 2) rfl
                  have v0 := bb7.cell (j := 0) rfl; have v1 := bb7.cell (j := 1) rfl; have v2 := bb7.cell (j := 2) rfl
                  go_wp2_with fail
                  (with_reducible refine (HC50.out).mono ?_)
                  rintro e w60 ⟨rfl, ka⟩
                  clear q0 q1 q2 v0 v1 v2
                  have r0 := (bb1.kept ka).cell (j := 0) rfl; have r1 := (bb1.kept ka).cell (j := 1) rfl; have r2 := (bb1.kept ka).cell (j := 2) rfl
                  have v0 := (bb8.kept ka).cell (j := 0) rfl; have v1 := (bb8.kept ka).cell (j := 1) rfl; have v2 := (bb8.kept ka).cell (j := 2) rfl
                  go_wp2_with fail
                  (with_reducible refine (HC33.out w60 ka).mono ?_)
                  rintro e w61 ⟨rfl, kb⟩
                  clear r0 r1 r2 v0 v1 v2
                  go_wp2_with fail
                  (with_reducible refine (HC30.out w61 (kept_trans ka kb)).mono ?_)
                  rintro e w62 ⟨rfl, kc⟩
                  have kk := kept_trans (kept_trans ka kb) kc
                  clear ka kb kc
                  go_wp2_with fail
                  have Hd' : OwHd w0 w62 w0.heap.size (w0.heap.size + 1) (r + 1) (pick3 n1 n2 n3) (pick3 s1 s2 s3) (pick3 l1 l2 l3) fg :=
                    ⟨kept_trans KE kk, ⟨_, _, BV, b10'.kept kk, fun _ q hq => by
                      obtain ⟨A', c', h1, h2⟩ := HPF.out q hq
                      exact ⟨rfl, rfl, A', c', h1, h2.kept kk⟩⟩, ⟨_, _, _, b11'.kept kk, fun _ => ⟨rfl, rfl, A22, c22, rfl, kk22.rk.kept kk⟩⟩⟩
                  go_roundg (2 - (r + 1))
                  case rel => exact ⟨r + 1, by omega, rfl, by go_num, Hd'⟩
                  case measure => omega
      · have : r = 2 := by omega
        subst this
        have KX := Hd.K
        clear Hd q0 q1 q2 r0 r1 r2
        go_wp2_with fail
        (with_reducible refine (alive_any _).mono ?_)
        rintro e w70 ⟨rfl, k⟩
        go_wp2_with fail
        go_ret
        exact ⟨rfl, kept_trans K0 (kept_trans KX k)⟩
theorem law_own (i s : Int) (A : Option Addr) (c : Nat) (l : List Nd) (f : Fm) (B : Option Addr) (d : Nat) (X : Option Addr) (cx : Nat) (x : List Bool) (w : World) (hm : l.length ≤ 140737488355328) (hr : RN w A l) (hf : RK w B f.l) (hfl : f.l.length ≤ 9223372036854775807) (hxl : x.length ≤ 140737488355328) (hx : Rd w X (bools x)) :
    Calls Try.prog 12 #[.agg #[.int .i64 i, .int .i64 s, .slice A l.length c], .agg #[.int .i64 f.k, .int .i64 f.n, .slice B f.l.length d], .slice X x.length cx] w fun e w' => e = .returned (.bool true) ∧ Kept w w' := by
  by_cases h1 : (l.length : Int) ≤ 100
  · by_cases h2 : (cntF f : Int) ≤ 60
    · by_cases h3 : x.length ≤ 100
      · exact law_own_d i s A c l f B d X cx x w hm hr hf hfl hxl hx h1 h2 h3
      · exact law_own_c i s A c l f B d X cx x w hm hr hf hfl hxl hx h1 h2 h3
    · exact law_own_b i s A c l f B d X cx x w hm hr hf hfl hxl hx h1 h2
  · exact law_own_a i s A c l f B d X cx x w hm hr hf hfl hxl hx h1
end Go.Proofs.Ytinpmdekdfgiiaa
