/- Polynomials: the reference's Reduce. -/
import Derived.Test.YtnjmpjdampdmmaaDoorC19
set_option linter.unusedVariables false
set_option linter.unusedSimpArgs false
namespace Go.Proofs.YtnjmpjdampdmmaaDoor
open Go.RowKit

set_option maxRecDepth 100000 in
set_option maxHeartbeats 1000000 in
theorem rreduce17_any (P M n : Int) (p : List Tm) (A : Option Addr) (c : Nat) (w : World) (hP : RP w A p) (hv : vld (ordF P M) n p = true) :
    Calls Tryd.prog 17 #[kV P M, .slice A p.length c] w (TotPost P M (p.map fun t => [redT (ordF P M) t]) w) := by
  have hvp := hv
  simp only [vld, Bool.and_eq_true, decide_eq_true_eq, allN_true] at hvp
  obtain ⟨⟨⟨⟨hn0, hn⟩, hl⟩, hq0⟩, hT⟩ := hvp
  have ok : okF P M = true := by
    cases h : okF P M with
    | true => rfl
    | false => exact absurd (ord_bad h) hq0
  have hq := ord_ok ok
  have tl : ∀ k, k < p.length → (tmv p k).e.length = n.toNat ∧ 1 ≤ (tmv p k).c ∧ (tmv p k).c < ordF P M ∧ ∀ x ∈ (tmv p k).e, 0 ≤ x ∧ x ≤ 65535 := fun k hk => by
    have h := tok_parts.1 (hT k hk)
    refine ⟨by omega, h.1, h.2.1, fun x hx => ?_⟩
    have := List.all_eq_true.1 h.2.2.2.2 x hx
    simpa [eOk] using this
  have CT := Lib.hid fun L A B cap w' h1 h2 h3 h4 => total_ones P M n.toNat ok (by omega) L A B cap w' h1 h2 h3 h4
  unfold kV at *
  have K0 := kept_alloc (kept_refl w) (.cells #[.int .i64 P, .int .i64 M, .int .i64 (ordF P M), .int .i64 (kitM M)] 35)
  have o2 := Own.new w 35 [.int .i64 P, .int .i64 M, .int .i64 (ordF P M), .int .i64 (kitM M)]
  obtain ⟨q, hqq⟩ : ∃ q, q = ordF P M := ⟨_, rfl⟩
  obtain ⟨km, hkm⟩ : ∃ km, km = kitM M := ⟨_, rfl⟩
  rw [← hqq] at hq tl
  rw [← hqq, ← hkm] at CT K0 o2 ⊢
  have HP := Lib.hid hP
  have TL := Lib.hid tl
  clear hP hv hqq hkm hT hq0 ok tl
  go_enter Tryd.func17, Tryd.ntmps17
  go_wp2_with fail
  obtain ⟨w0, hw0⟩ : ∃ w0, w0 = w.alloc (.cells #[.int .i64 P, .int .i64 M, .int .i64 q, .int .i64 km] 35) := ⟨_, rfl⟩
  rw [← hw0] at K0 o2 ⊢
  clear hw0
  go_loopg [5, 6, 7, 8] p.length (fun G s5 s6 s7 s8 wr => ∃ (i : Nat) (A5 : Option Addr) (c5 : Nat) (L : List Pe) (v7 v8 : Value), i ≤ p.length ∧ G = p.length - i ∧ s5 = .slice A5 i c5 ∧ s6 = .int .i64 i ∧ s7 = v7 ∧ s8 = v8 ∧ wr.ownsRow (w.heap.size + 1) 25 1 (.slice A5 i c5) i (L.map valPe) ∧ Hid (L.length = i ∧ (L.map fun y => y.x.t) = (p.take i).map (redT q)) ∧ Hid (∀ y ∈ L, okPe y wr) ∧ Kept w wr ∧ Own wr w.heap.size 35 [.int .i64 P, .int .i64 M, .int .i64 q, .int .i64 km])
  case atStart => exact ⟨0, none, 0, [], _, _, by omega, rfl, rfl, rfl, rfl, rfl, World.ownsRow_nil _ _ _ _, Lib.hid (by simp), Lib.hid (by simp), K0, o2⟩
  case round =>
    clear K0 o2
    obtain ⟨i, A5, c5, L, v7, v8, hi, rfl, rfl, rfl, rfl, rfl, hrow, HL, HK, K0, o2⟩ := hrel
    have ol := o2.lt
    by_cases hit : i < p.length
    · obtain ⟨ba, off, E, ce, rfl, h0, h1, hE, hlE⟩ := HP.out i hit
      obtain ⟨x, hx⟩ : ∃ x, x = (tmv p i).c := ⟨_, rfl⟩
      obtain ⟨el, hel⟩ : ∃ el, el = (tmv p i).e := ⟨_, rfl⟩
      have TK := Lib.hid (TL.out i hit)
      have HX := Lib.hid hx
      have HEL := Lib.hid hel
      rw [← hx, ← hel] at TK
      rw [← hx] at h0
      rw [← hel] at h1 hE hlE
      replace h0 := kept_cell K0 h0
      replace h1 := kept_cell K0 h1
      have hl1 : el.length ≤ 80 := by have := TK.out.1; omega
      have KA : Kept wr (wr.alloc (.cells #[] 3)) := kept_alloc (kept_refl _) _
      have oA : (wr.alloc (.cells #[] 3)).ownsRow wr.heap.size 3 1 (.slice (some ⟨wr.heap.size, 0, none⟩) 0 0) 0 (ints []) := (Own.new wr 3 []).row wr.heap.size 1 0 (Nat.le_refl _) rfl (by omega)
      have HEA := Lib.hid (hE.kept (kept_trans K0 KA))
      have g1 := kept_cell KA h1
      clear hx hel hE
      go_wp2_with (at_builtin; go_loud (refine app_any wr.heap.size rfl (.tmp 15) (.tmp 20) 56 3 (.int .i64 0) 1 8 rfl Tryd.underlying56 info3 rfl (by omega) (by omega) (.slice (some ⟨wr.heap.size, 0, none⟩) 0 0) 0 el.length ce E (ints []) (ints el) rfl rfl (by simp) HEA.out (one_ints _) oA (by simp) (by omega) ?_; intro v7 w1 h7 hg7 _; rw [Nat.zero_add, show ints [] ++ ints el = ints el from rfl] at h7; obtain ⟨A7, c7, rfl⟩ := row_val h7; have K7 := kept_grown (kept_alloc (kept_refl wr) _) oA (Nat.le_refl _) hg7))
      have q2 := o2.cell (j := 2) rfl
      obtain ⟨wb, rfl⟩ : ∃ x, x = wr := ⟨_, rfl⟩
      clear g1 h1 oA
      go_loopg [8] el.length (fun G s8 wr => ∃ (k : Nat), k ≤ el.length ∧ G = el.length - k ∧ s8 = .int .i64 k ∧ wr.ownsRow wb.heap.size 3 1 (.slice A7 el.length c7) el.length (ints (turnTo (redE q) el k)) ∧ Kept wb wr)
      case atStart => exact ⟨0, by omega, rfl, rfl, by rw [turnTo_zero]; exact h7, K7⟩
      case round =>
        clear h7 K7
        obtain ⟨k, hk, rfl, rfl, h7, K7⟩ := hrel
        have q2' := kept_cell K7 q2
        by_cases hkt : k < el.length
        · obtain ⟨ge, rfl, hge1, hge2, hge3, hge4, hset⟩ := row_setInt h7 (i := k) (by rw [turnTo_len]; exact hkt)
          rw [turnTo_at hkt] at hge3
          have bx := TK.out.2.2.2 (ia el k) (ia_mem hkt)
          obtain ⟨xi, hxi⟩ : ∃ xi, xi = ia el k := ⟨_, rfl⟩
          rw [← hxi] at hge3 bx
          have HSET := Lib.hid hset
          have HROW := Lib.hid h7
          have HXI := Lib.hid hxi
          clear hset h7 hxi
          have ewk : IntKind.i64.wrap ((k : Nat) : Int) = k := IntWalk.i64_in _ (by omega)
          by_cases c1 : q ≤ xi
          · have d1 : decide (q ≤ xi) = true := decide_eq_true c1
            have e1 : IntKind.i64.wrap (xi - 1) = xi - 1 := IntWalk.i64_in _ (by omega)
            have e2 : IntKind.i64.wrap (q - 1) = q - 1 := IntWalk.i64_in _ (by omega)
            obtain ⟨r, hr⟩ : ∃ r, r = (xi - 1).tmod (q - 1) := ⟨_, rfl⟩
            have hr1 : 0 ≤ r ∧ r < q - 1 := by
              rw [hr, Int.tmod_eq_emod_of_nonneg (by omega)]
              exact ⟨Int.emod_nonneg _ (by omega), Int.emod_lt_of_pos _ (by omega)⟩
            have m3 : (xi - 1).tmod (q - 1) = r := hr.symm
            have m4 : IntKind.i64.wrap r = r := IntWalk.i64_in _ (by omega)
            have m5 : IntKind.i64.wrap (1 + r) = 1 + r := IntWalk.i64_in _ (by omega)
            have m6 : (q - 1 == 0) = false := by have : q - 1 ≠ 0 := by { omega }
                                                 simpa using this
            have m7 : ¬ (q - 1 = 0) := by omega
            have HRR := Lib.hid hr
            clear hr
            go_upto_region 9 with fail
            go_quiet (fail)
            go_upto_region 10 with fail
            refine region_x (fun w' => Kept wb w') [] (by kernel_rfl) (kept_drew (below_drewN K7 _)) (fun hHeld => ?_)
            refine x_take (i := 0) (oi := { dst := some 35, op := Op.move (Operand.tmp 7), type := 56, pos := "ref.go:210", after := #[], guard := none }) (v := ?_) rfl (by kernel_rfl) (by kernel_rfl) (by kernel_rfl) (by kernel_rfl) (by kernel_rfl) (fun _ _ _ h => h) (Or.inl ⟨rfl, ?_⟩) (by assumption) ?_
            rotate_left
            · (intro w' hSw; replace q2 := kept_cell hSw q2; go_simp; try with_reducible rfl)
            try simp only [Act.put, List.setIfInBounds_toArray, List.set_cons_zero, List.set_cons_succ]
            refine x_take (i := 1) (oi := { dst := some 36, op := Op.move (Operand.tmp 8), type := 3, pos := "ref.go:210", after := #[], guard := none }) (v := ?_) rfl (by kernel_rfl) (by kernel_rfl) (by kernel_rfl) (by kernel_rfl) (by kernel_rfl) (fun _ _ _ h => h) (Or.inl ⟨rfl, ?_⟩) (by assumption) ?_
            rotate_left
            · (intro w' hSw; replace q2 := kept_cell hSw q2; go_simp; try with_reducible rfl)
            try simp only [Act.put, List.setIfInBounds_toArray, List.set_cons_zero, List.set_cons_succ]
            refine x_take (i := 2) (oi := { dst := some 37, op := Op.move (Operand.tmp 7), type := 56, pos := "ref.go:210", after := #[], guard := none }) (v := ?_) rfl (by kernel_rfl) (by kernel_rfl) (by kernel_rfl) (by kernel_rfl) (by kernel_rfl) (fun _ _ _ h => h) (Or.inl ⟨rfl, ?_⟩) (by assumption) ?_
            rotate_left
            · (intro w' hSw; replace q2 := kept_cell hSw q2; go_simp; try with_reducible rfl)
            try simp only [Act.put, List.setIfInBounds_toArray, List.set_cons_zero, List.set_cons_succ]
            refine x_take (i := 3) (oi := { dst := some 38, op := Op.move (Operand.tmp 8), type := 3, pos := "ref.go:210", after := #[], guard := none }) (v := ?_) rfl (by kernel_rfl) (by kernel_rfl) (by kernel_rfl) (by kernel_rfl) (by kernel_rfl) (fun _ _ _ h => h) (Or.inl ⟨rfl, ?_⟩) (by assumption) ?_
            rotate_left
            · (intro w' hSw; replace q2 := kept_cell hSw q2; go_simp; try with_reducible rfl)
            try simp only [Act.put, List.setIfInBounds_toArray, List.set_cons_zero, List.set_cons_succ]
            refine x_take (i := 4) (oi := { dst := some 39, op := Op.indexAddr 56 (Operand.tmp 37) (Operand.tmp 38), type := 0, pos := "ref.go:210", after := #[{ on := 2, ground := Ground.data }, { on := 3, ground := Ground.data }], guard := none }) (v := ?_) rfl (by kernel_rfl) (by kernel_rfl) (by kernel_rfl) (by kernel_rfl) (by kernel_rfl) (fun _ _ _ h => h) (Or.inl ⟨rfl, ?_⟩) (by assumption) ?_
            rotate_left
            · (intro w' hSw; replace q2 := kept_cell hSw q2; go_simp; try with_reducible rfl)
            try simp only [Act.put, List.setIfInBounds_toArray, List.set_cons_zero, List.set_cons_succ]
            refine x_take (i := 7) (oi := { dst := some 42, op := Op.fieldAddr 35 (Operand.tmp 2) 2, type := 0, pos := "ref.go:210", after := #[], guard := none }) (v := ?_) rfl (by kernel_rfl) (by kernel_rfl) (by kernel_rfl) (by kernel_rfl) (by kernel_rfl) (fun _ _ _ h => h) (Or.inl ⟨rfl, ?_⟩) (by assumption) ?_
            rotate_left
            · (intro w' hSw; replace q2 := kept_cell hSw q2; go_simp; try with_reducible rfl)
            try simp only [Act.put, List.setIfInBounds_toArray, List.set_cons_zero, List.set_cons_succ]
            refine x_take (i := 8) (oi := { dst := some 43, op := Op.load 3 (Operand.tmp 42), type := 3, pos := "ref.go:210", after := #[{ on := 7, ground := Ground.data }], guard := none }) (v := ?_) rfl (by kernel_rfl) (by kernel_rfl) (by kernel_rfl) (by kernel_rfl) (by kernel_rfl) (fun _ _ _ h => h) (Or.inl ⟨rfl, ?_⟩) (by assumption) ?_
            rotate_left
            · (intro w' hSw; replace q2 := kept_cell hSw q2; go_simp; try with_reducible rfl)
            try simp only [Act.put, List.setIfInBounds_toArray, List.set_cons_zero, List.set_cons_succ]
            refine x_take (i := 9) (oi := { dst := some 44, op := Op.binOp BinOp.sub 3 (Operand.tmp 43) (Operand.const (Value.int IntKind.i64 1)) 3, type := 3, pos := "ref.go:210", after := #[{ on := 8, ground := Ground.data }], guard := none }) (v := ?_) rfl (by kernel_rfl) (by kernel_rfl) (by kernel_rfl) (by kernel_rfl) (by kernel_rfl) (fun _ _ _ h => h) (Or.inl ⟨rfl, ?_⟩) (by assumption) ?_
            rotate_left
            · (intro w' hSw; replace q2 := kept_cell hSw q2; go_simp; try with_reducible rfl)
            try simp only [Act.put, List.setIfInBounds_toArray, List.set_cons_zero, List.set_cons_succ]
            refine x_one (i := 5) (o := { dst := some 40, op := Op.load 3 (Operand.tmp 39), type := 3, pos := "ref.go:210", after := #[{ on := 4, ground := Ground.data }], guard := none }) (by kernel_rfl) rfl (fun K hK => ?_)
            (go_simp)
            refine hK.out _ _ ?_ (fun hHeld => ?_)
            · (try dsimp only); repeat (first | assumption | exact kept_refl _ | refine kept_drew ?_ | refine kept_alloc ?_ _ | refine kept_set ?_ (by omega) _)
            clear hK K
            try simp only [Act.put, List.setIfInBounds_toArray, List.set_cons_zero, List.set_cons_succ]
            refine x_take (i := 6) (oi := { dst := some 41, op := Op.binOp BinOp.sub 3 (Operand.tmp 40) (Operand.const (Value.int IntKind.i64 1)) 3, type := 3, pos := "ref.go:210", after := #[{ on := 5, ground := Ground.data }], guard := none }) (v := ?_) rfl (by kernel_rfl) (by kernel_rfl) (by kernel_rfl) (by kernel_rfl) (by kernel_rfl) (fun _ _ _ h => h) (Or.inl ⟨rfl, ?_⟩) (by assumption) ?_
            rotate_left
            · (intro w' hSw; replace q2 := kept_cell hSw q2; go_simp; try with_reducible rfl)
            try simp only [Act.put, List.setIfInBounds_toArray, List.set_cons_zero, List.set_cons_succ]
            refine x_take (i := 10) (oi := { dst := some 45, op := Op.binOp BinOp.rem 3 (Operand.tmp 41) (Operand.tmp 44) 3, type := 3, pos := "ref.go:210", after := #[{ on := 6, ground := Ground.data }, { on := 9, ground := Ground.data }], guard := none }) (v := ?_) rfl (by kernel_rfl) (by kernel_rfl) (by kernel_rfl) (by kernel_rfl) (by kernel_rfl) (fun _ _ _ h => h) (Or.inl ⟨rfl, ?_⟩) (by assumption) ?_
            rotate_left
            · (intro w' hSw; replace q2 := kept_cell hSw q2; go_simp; try with_reducible rfl)
            try simp only [Act.put, List.setIfInBounds_toArray, List.set_cons_zero, List.set_cons_succ]
            refine x_take (i := 11) (oi := { dst := some 46, op := Op.binOp BinOp.add 3 (Operand.const (Value.int IntKind.i64 1)) (Operand.tmp 45) 3, type := 3, pos := "ref.go:210", after := #[{ on := 10, ground := Ground.data }], guard := none }) (v := ?_) rfl (by kernel_rfl) (by kernel_rfl) (by kernel_rfl) (by kernel_rfl) (by kernel_rfl) (fun _ _ _ h => h) (Or.inl ⟨rfl, ?_⟩) (by assumption) ?_
            rotate_left
            · (intro w' hSw; replace q2 := kept_cell hSw q2; go_simp; try with_reducible rfl)
            try simp only [Act.put, List.setIfInBounds_toArray, List.set_cons_zero, List.set_cons_succ]
            refine x_take (i := 12) (oi := { dst := some 47, op := Op.indexAddr 56 (Operand.tmp 35) (Operand.tmp 36), type := 0, pos := "ref.go:210", after := #[{ on := 0, ground := Ground.data }, { on := 1, ground := Ground.data }, { on := 0, ground := Ground.phase }, { on := 1, ground := Ground.phase }, { on := 2, ground := Ground.phase }, { on := 3, ground := Ground.phase }, { on := 4, ground := Ground.phase }, { on := 5, ground := Ground.phase }, { on := 6, ground := Ground.phase }, { on := 7, ground := Ground.phase }, { on := 8, ground := Ground.phase }, { on := 9, ground := Ground.phase }, { on := 10, ground := Ground.phase }, { on := 11, ground := Ground.phase }], guard := none }) (v := ?_) rfl (by kernel_rfl) (by kernel_rfl) (by kernel_rfl) (by kernel_rfl) (by kernel_rfl) (fun _ _ _ h => h) (Or.inl ⟨rfl, ?_⟩) (by assumption) ?_
            rotate_left
            · (intro w' hSw; replace q2 := kept_cell hSw q2; go_simp; try with_reducible rfl)
            try simp only [Act.put, List.setIfInBounds_toArray, List.set_cons_zero, List.set_cons_succ]
            refine x_one (i := 13) (o := { dst := none, op := Op.store 3 (Operand.tmp 47) (Operand.tmp 46), type := 0, pos := "ref.go:210", after := #[{ on := 12, ground := Ground.data }, { on := 11, ground := Ground.data }, { on := 0, ground := Ground.phase }, { on := 1, ground := Ground.phase }, { on := 2, ground := Ground.phase }, { on := 3, ground := Ground.phase }, { on := 4, ground := Ground.phase }, { on := 5, ground := Ground.phase }, { on := 6, ground := Ground.phase }, { on := 7, ground := Ground.phase }, { on := 8, ground := Ground.phase }, { on := 9, ground := Ground.phase }, { on := 10, ground := Ground.phase }, { on := 11, ground := Ground.phase }], guard := none }) (by kernel_rfl) rfl (fun K hK => ?_)
            (go_simp)
            refine hK.out _ _ ?_ (fun hHeld => ?_)
            · (try dsimp only); repeat (first | assumption | exact kept_refl _ | refine kept_drew ?_ | refine kept_alloc ?_ _ | refine kept_set ?_ (by omega) _)
            clear hK K
            try simp only [Act.put, List.setIfInBounds_toArray, List.set_cons_zero, List.set_cons_succ]
            refine x_done (by kernel_rfl) ?_ _
            go_wp2_with fail
            go_roundg (el.length - (k + 1))
            case rel => exact ⟨k + 1, by omega, rfl, by go_num, by
              have h5 := HSET.out (1 + r)
              rw [show (turnTo (redE q) el k).set k (1 + r) = turnTo (redE q) el (k + 1) by rw [show (1 + r) = redE q (ia el k) by rw [← HXI.out, HRR.out]; unfold redE; rw [if_pos (by omega)], turnTo_set hkt]] at h5
              exact h5, by assumption⟩
            case measure => omega
          · have d1 : decide (q ≤ xi) = false := decide_eq_false c1
            go_upto_region 9 with fail
            go_quiet (fail)
            go_wp2_with fail
            go_roundg (el.length - (k + 1))
            case rel => exact ⟨k + 1, by omega, rfl, by go_num, by
              rw [← turnTo_same hkt (by rw [← HXI.out]; unfold redE; rw [if_neg (by omega)])]; exact HROW.out, below_drewN K7 _⟩
            case measure => omega
        · obtain rfl : k = el.length := by omega
          rw [turnTo_all] at h7
          obtain ⟨W5, hW5⟩ : ∃ W5, W5 = wr.alloc (.cells #[.int .i64 x, .slice A7 el.length c7] 67) := ⟨_, rfl⟩
          have KW5 : Kept wr W5 := by rw [hW5]; exact kept_alloc (kept_refl _) _
          have KB : Kept wb W5 := kept_trans K7 KW5
          have hrowW := row_kept hrow KB
          have ok5 : okPe ⟨wr.heap.size, ⟨⟨x, el.map (redE q)⟩, A7, c7⟩⟩ W5 := ⟨by
            have := Own.new wr 67 [.int .i64 x, .slice A7 el.length c7]
            rw [hW5]
            simpa [te2] using this, by
            have := row_base (row_kept h7 KW5) (Nat.zero_le _)
            simpa using this, by simp; omega⟩
          have h0' := kept_cell K7 h0
          have HW5 := Lib.hid hW5
          have hB5 : w.heap.size + 1 ≤ W5.heap.size := by have := KB.size; omega
          have OK5 := Lib.hid ok5
          have HSZ := Lib.hid (show W5.heap.size = wr.heap.size + 1 by rw [hW5]; simp)
          clear hW5 h7 ok5 q2'
          go_wp2_with (at_builtin; go_loud (rw [← HW5.out]; refine app_law (w.heap.size + 1) rfl (.tmp 48) (.tmp 57) 72 25 (.slice none 0 0) 1 24 rfl Tryd.underlying72 info25 rfl (by omega) (by omega) (.slice A5 i c5) i 1 (L.map valPe) [.slice (some ⟨wr.heap.size, 0, none⟩) 1 1] rfl (by rw [HSZ.out]; rfl) rfl (by intro u hu; simp at hu; subst hu; rfl) hrowW hB5 (by omega) ?_; intro v5 w5 h5 hg5 _; obtain ⟨A6, c6, rfl⟩ := row_val h5))
          go_roundg (p.length - (i + 1))
          case rel => exact ⟨i + 1, A6, c6, L ++ [⟨wr.heap.size, ⟨⟨x, el.map (redE q)⟩, A7, c7⟩⟩], _, _, by omega, rfl, rfl, by go_num, rfl, rfl, by (rw [List.map_append]; exact h5), Lib.hid ⟨by (rw [List.length_append, HL.out.1]; rfl), by
              rw [List.map_append, HL.out.2, take_tm hit, List.map_append]
              congr 1
              simp only [List.map_cons, List.map_nil, redT]
              rw [HX.out, HEL.out]⟩, Lib.hid (fun y hy => by
              rcases List.mem_append.1 hy with hy | hy
              · exact ((HK.out y hy).kept KB).grow hrowW hg5
              · obtain rfl := List.mem_singleton.1 hy
                exact OK5.out.grow hrowW hg5), kept_grown (kept_trans K0 KB) hrowW (by omega) hg5, (o2.kept KB).grown hg5 (own_apart (o2.kept KB) hrowW (by decide))⟩
          case measure => omega
    · obtain rfl : i = p.length := by omega
      have hcl := HL.out.1
      have y0 := o2.cell (j := 0) rfl; have y1 := o2.cell (j := 1) rfl; have y2 := o2.cell (j := 2) rfl; have y3 := o2.cell (j := 3) rfl
      have C49 := Lib.hid (CT.out L A5 (w.heap.size + 1) c5 wr (by rw [hcl]; exact hrow) HK.out (by rw [hcl]; exact hl) (fun y hy => by
        have h5 : y.x.t ∈ (p.take p.length).map (redT q) := by rw [← HL.out.2]; exact List.mem_map.2 ⟨y, hy, rfl⟩
        obtain ⟨u, hu, e5⟩ := List.mem_map.1 h5
        rw [List.take_length] at hu
        obtain ⟨k, hk, rfl⟩ := List.getElem_of_mem hu
        have h6 := TL.out k hk
        rw [show tmv p k = p[k] by simp [tmv, hk]] at h6
        rw [← e5]
        exact ⟨by unfold redT; rw [List.length_map]; exact h6.1, h6.2.1, h6.2.2.1⟩))
      rw [hcl] at C49
      clear hcl
      go_wp2_with (go_at_call 49; ((with_reducible refine C49.out.mono ?_); rintro e w5 ⟨A6, c6, out, rfl, ho, hrp, k6⟩; have HO := Lib.hid ho; clear ho))
      go_ret
      exact ⟨A6, c6, out, rfl, by (rw [HO.out, show (L.map fun y => [y.x.t]) = (L.map fun y => y.x.t).map fun t => [t] by rw [List.map_map]; rfl, HL.out.2, List.take_length, List.map_map]; rfl), hrp, kept_trans K0 k6⟩
end Go.Proofs.YtnjmpjdampdmmaaDoor
