/- Polynomials: the product, the exported one and the reference's; what fits. -/
import Derived.Test.YtnjmpjdampdmmaaGreatDoorC27
set_option linter.unusedVariables false
set_option linter.unusedSimpArgs false
namespace Go.Proofs.YtnjmpjdampdmmaaGreatDoor
open Go.RowKit Go.Shelf

theorem rise_of {n : Nat} : ∀ {p : List Tm}, (∀ t ∈ p, t.e.length = n) → (∀ j, 0 < j → j < p.length → LtL (tmv p (j - 1)).e (tmv p j).e) → p.Pairwise (fun a b => LtL a.e b.e)
  | [], _, _ => .nil
  | [t], _, _ => List.pairwise_singleton _ _
  | t :: u :: p, hl, h => by
    have ih := rise_of (p := u :: p) (fun x hx => hl x (by simp [hx])) (fun j h0 hj => by
      have := h (j + 1) (by omega) (by simpa using hj)
      rw [Nat.add_sub_cancel] at this
      obtain ⟨i, rfl⟩ : ∃ i, j = i + 1 := ⟨j - 1, by omega⟩
      simpa [tmv] using this)
    have h0 : LtL t.e u.e := by simpa [tmv] using h 1 (by omega) (by simp)
    refine List.pairwise_cons.2 ⟨fun x hx => ?_, ih⟩
    rcases List.mem_cons.1 hx with rfl | hx
    · exact h0
    · exact ltL_trans (by rw [hl t (by simp), hl u (by simp)]) (by rw [hl u (by simp), hl x (by simp [hx])]) h0 ((List.pairwise_cons.1 ih).1 x hx)
theorem vld_tms {P M n : Int} {p : List Tm} (hv : vld (ordF P M) n p = true) : TmsOk P M n.toNat p := (vld_terms hv).2.2
theorem vld_canon {P M n : Int} {p : List Tm} (hv : vld (ordF P M) n p = true) : Canon (ordF P M) n.toNat p := by
  have ht := vld_tms hv
  have hvp := hv
  simp only [vld, Bool.and_eq_true, decide_eq_true_eq, allN_true] at hvp
  refine ⟨rise_of (n := n.toNat) (fun t h => (ht.mem h).1) (fun j h0 hj => ?_), fun t h => (ht.mem h).1, fun t h => ⟨(ht.mem h).2.1, (ht.mem h).2.2.1⟩⟩
  have h := (tok_parts.1 (hvp.2 j hj)).2.2.2.1
  rcases h with h | h
  · omega
  · exact h

set_option maxRecDepth 100000 in
set_option maxHeartbeats 1000000 in
theorem mul29_bad (P M n : Int) (p r : List Tm) (A B : Option Addr) (c d : Nat) (w : World) (hP : RP w A p) (hR : RP w B r) (hl : p.length ≤ 140737488355328) (hl2 : r.length ≤ 140737488355328) (hv : vld (ordF P M) n p = false ∨ vld (ordF P M) n r = false) :
    Calls Tryz.prog 21 #[fV P M, .int .i64 n, .slice A p.length c, .slice B r.length d] w fun e w' => e = .returned (.tuple #[.slice none 0 0, .int .i64 1]) ∧ Kept w w' := by
  have C1 := Lib.hid fun w' (k : Kept w w') => valid25_any P M n p A c w' (hP.kept k) hl
  have C2 := Lib.hid fun w' (k : Kept w w') => valid25_any P M n r B d w' (hR.kept k) hl2
  unfold fV at *
  have K0 := kept_alloc (kept_refl w) (.cells #[.int .i64 P, .int .i64 M] 23)
  have o3 := Own.new w 23 [.int .i64 P, .int .i64 M]
  cases h1 : vld (ordF P M) n p with
  | false =>
    rw [h1] at C1
    clear hP hR hl hl2 hv C2 h1
    go_enter Tryz.func21, Tryz.ntmps21
    go_wp2_with (go_at_call 29; ((with_reducible refine (C1.out _ K0).mono ?_); rintro e w1 ⟨rfl, k1⟩))
    go_ret2
    exact ⟨rfl, kept_trans K0 k1⟩
  | true =>
    have h2 : vld (ordF P M) n r = false := by rcases hv with h | h; rw [h1] at h; cases h; exact h
    rw [h1] at C1
    rw [h2] at C2
    clear hP hR hl hl2 hv h1 h2
    go_enter Tryz.func21, Tryz.ntmps21
    go_upto_region 1 with fail
    obtain ⟨w0, hw0⟩ : ∃ w0, w0 = w.alloc (.cells #[.int .i64 P, .int .i64 M] 23) := ⟨_, rfl⟩
    rw [← hw0] at K0 o3 ⊢
    have y0 := o3.cell (j := 0) rfl; have y1 := o3.cell (j := 1) rfl
    have D1 := Lib.hid (C1.out w0 K0)
    clear hw0
    go_wp2_with (first
      | (go_at_call 29; ((with_reducible refine D1.out.mono ?_); rintro e w1 ⟨rfl, k1⟩; replace y0 := kept_cell k1 y0; replace y1 := kept_cell k1 y1))
      | (go_at_call 29; ((with_reducible refine (C2.out _ (kept_trans K0 k1)).mono ?_); rintro e w2 ⟨rfl, k2⟩)))
    go_ret2
    exact ⟨rfl, kept_trans K0 (kept_trans k1 k2)⟩
/-- The product's polynomial. -/
def prT (P M : Int) (p r : List Tm) : List Tm := totalT (addF P M) (prodT (mulF P M) p r).length ((prodT (mulF P M) p r).map fun t => [t])
def MulYes (P M : Int) (p r : List Tm) (w : World) (e : Ending) (w' : World) : Prop := ∃ (A' : Option Addr) (c' : Nat) (out : List Tm), e = .returned (.tuple #[.slice A' out.length c', .int .i64 0]) ∧ out = prT P M p r ∧ RP w' A' out ∧ Kept w w'
def MulNo (w : World) (e : Ending) (w' : World) : Prop := e = .returned (.tuple #[.slice none 0 0, .int .i64 5]) ∧ Kept w w'
theorem MulPost.yes {P M : Int} {p r : List Tm} {w w' : World} {e : Ending} (h : MulPost P M p r w e w') (hn : noOv p r = true) : MulYes P M p r w e w' := by
  rcases h with ⟨_, h⟩ | ⟨h0, _⟩
  · exact h
  · rw [hn] at h0; cases h0
theorem MulPost.no {P M : Int} {p r : List Tm} {w w' : World} {e : Ending} (h : MulPost P M p r w e w') (hn : noOv p r = false) : MulNo w e w' := by
  rcases h with ⟨h0, _⟩ | ⟨_, h⟩
  · rw [hn] at h0; cases h0
  · exact h
set_option maxRecDepth 100000 in
set_option maxHeartbeats 1000000 in
theorem mul29_yes (P M n : Int) (p r : List Tm) (A B : Option Addr) (c d : Nat) (w : World) (hP : RP w A p) (hR : RP w B r) (hv : vld (ordF P M) n p = true) (hv2 : vld (ordF P M) n r = true) (hpr : p.length * r.length ≤ 20000) (hno : noOv p r = true) :
    Calls Tryz.prog 21 #[fV P M, .int .i64 n, .slice A p.length c, .slice B r.length d] w (MulYes P M p r w) := by
  obtain ⟨hn, hl, tl⟩ := vld_terms hv
  obtain ⟨_, hl2, tl2⟩ := vld_terms hv2
  have ok := vld_ok hv
  have C1 := Lib.hid fun w' (k : Kept w w') => valid25_any P M n p A c w' (hP.kept k) (by omega)
  have C2 := Lib.hid fun w' (k : Kept w w') => valid25_any P M n r B d w' (hR.kept k) (by omega)
  have C3 := Lib.hid fun w' (k : Kept w w') => (mul64_any P M n.toNat p r A B c d w' ok (hP.kept k) (hR.kept k) (by omega) (vld_tms hv) (vld_tms hv2) hl hl2 hpr).mono fun e w'' h => h.yes hno
  rw [hv] at C1
  rw [hv2] at C2
  unfold fV at *
  have K0 := kept_alloc (kept_refl w) (.cells #[.int .i64 P, .int .i64 M] 23)
  have o3 := Own.new w 23 [.int .i64 P, .int .i64 M]
  clear hP hR hv hv2 hpr ok tl tl2 hno
  go_enter Tryz.func21, Tryz.ntmps21
  go_upto_region 1 with fail
  obtain ⟨w0, hw0⟩ : ∃ w0, w0 = w.alloc (.cells #[.int .i64 P, .int .i64 M] 23) := ⟨_, rfl⟩
  rw [← hw0] at K0 o3 ⊢
  have y0 := o3.cell (j := 0) rfl; have y1 := o3.cell (j := 1) rfl
  have D1 := Lib.hid (C1.out w0 K0)
  clear hw0
  go_wp2_with (first
    | (go_at_call 29; ((with_reducible refine D1.out.mono ?_); rintro e w1 ⟨rfl, k1⟩; replace y0 := kept_cell k1 y0; replace y1 := kept_cell k1 y1; replace K0 := kept_trans K0 k1))
    | (go_at_call 29; ((with_reducible refine (C2.out _ K0).mono ?_); rintro e w2 ⟨rfl, k2⟩; replace y0 := kept_cell k2 y0; replace y1 := kept_cell k2 y1; replace K0 := kept_trans K0 k2))
    | (go_at_call 41; ((with_reducible refine (C3.out _ K0).mono ?_); rintro e w3 ⟨A', c', out, rfl, ho, hrp, k3⟩; have HO := Lib.hid ho; clear ho)))
  go_ret2
  exact ⟨A', c', out, rfl, HO.out, hrp, kept_trans K0 k3⟩
set_option maxRecDepth 100000 in
set_option maxHeartbeats 1000000 in
theorem mul29_no (P M n : Int) (p r : List Tm) (A B : Option Addr) (c d : Nat) (w : World) (hP : RP w A p) (hR : RP w B r) (hv : vld (ordF P M) n p = true) (hv2 : vld (ordF P M) n r = true) (hpr : p.length * r.length ≤ 20000) (hno : noOv p r = false) :
    Calls Tryz.prog 21 #[fV P M, .int .i64 n, .slice A p.length c, .slice B r.length d] w (MulNo w) := by
  obtain ⟨hn, hl, tl⟩ := vld_terms hv
  obtain ⟨_, hl2, tl2⟩ := vld_terms hv2
  have ok := vld_ok hv
  have C1 := Lib.hid fun w' (k : Kept w w') => valid25_any P M n p A c w' (hP.kept k) (by omega)
  have C2 := Lib.hid fun w' (k : Kept w w') => valid25_any P M n r B d w' (hR.kept k) (by omega)
  have C3 := Lib.hid fun w' (k : Kept w w') => (mul64_any P M n.toNat p r A B c d w' ok (hP.kept k) (hR.kept k) (by omega) (vld_tms hv) (vld_tms hv2) hl hl2 hpr).mono fun e w'' h => h.no hno
  rw [hv] at C1
  rw [hv2] at C2
  unfold fV at *
  have K0 := kept_alloc (kept_refl w) (.cells #[.int .i64 P, .int .i64 M] 23)
  have o3 := Own.new w 23 [.int .i64 P, .int .i64 M]
  clear hP hR hv hv2 hpr ok tl tl2 hno
  go_enter Tryz.func21, Tryz.ntmps21
  go_upto_region 1 with fail
  obtain ⟨w0, hw0⟩ : ∃ w0, w0 = w.alloc (.cells #[.int .i64 P, .int .i64 M] 23) := ⟨_, rfl⟩
  rw [← hw0] at K0 o3 ⊢
  have y0 := o3.cell (j := 0) rfl; have y1 := o3.cell (j := 1) rfl
  have D1 := Lib.hid (C1.out w0 K0)
  clear hw0
  go_wp2_with (first
    | (go_at_call 29; ((with_reducible refine D1.out.mono ?_); rintro e w1 ⟨rfl, k1⟩; replace y0 := kept_cell k1 y0; replace y1 := kept_cell k1 y1; replace K0 := kept_trans K0 k1))
    | (go_at_call 29; ((with_reducible refine (C2.out _ K0).mono ?_); rintro e w2 ⟨rfl, k2⟩; replace y0 := kept_cell k2 y0; replace y1 := kept_cell k2 y1; replace K0 := kept_trans K0 k2))
    | (go_at_call 41; ((with_reducible refine (C3.out _ K0).mono ?_); rintro e w3 ⟨rfl, k3⟩)))
  go_ret2
  exact ⟨rfl, kept_trans K0 k3⟩

/-- Within the limits of terms and exponents. -/
def fitsB (p : List Tm) : Bool := (p.all fun t => eFit t.e) && decide (p.length ≤ 20000)
def FitTo (p : List Tm) (k : Nat) : Prop := ∀ j, j < k → eFit (tmv p j).e = true
set_option maxRecDepth 100000 in
set_option maxHeartbeats 1000000 in
theorem fits31_any (p : List Tm) (A : Option Addr) (c : Nat) (w : World) (hP : RP w A p) (hl : p.length ≤ 140737488355328) :
    Calls Tryz.prog 19 #[.slice A p.length c] w fun e w' => e = .returned (.bool (fitsB p)) ∧ Kept w w' := by
  have HP := Lib.hid hP
  have NO := Lib.hid (show ∀ k, k < p.length → ∀ j, j < (tmv p k).e.length → 65535 < ia (tmv p k).e j → fitsB p = false from fun k hk j hj h => by
    unfold fitsB
    rw [show (p.all fun t => eFit t.e) = false from by
      rw [List.all_eq_false]
      refine ⟨tmv p k, tmv_mem hk, ?_⟩
      have : eFit (tmv p k).e = false := by
        unfold eFit
        rw [List.all_eq_false]
        exact ⟨_, ia_mem hj, by simp; omega⟩
      simp [this]]
    rfl)
  have YES := Lib.hid (show (∀ k, k < p.length → ∀ j, j < (tmv p k).e.length → ia (tmv p k).e j ≤ 65535) → fitsB p = decide (p.length ≤ 20000) from fun h => by
    unfold fitsB
    rw [show (p.all fun t => eFit t.e) = true from by
      rw [List.all_eq_true]
      intro t ht
      obtain ⟨k, hk, rfl⟩ := List.getElem_of_mem ht
      have h1 := h k hk
      rw [show tmv p k = p[k] by simp [tmv, hk]] at h1
      unfold eFit
      rw [List.all_eq_true]
      intro x hx
      obtain ⟨j, hj, rfl⟩ := List.getElem_of_mem hx
      have h2 := h1 j hj
      unfold ia at h2
      rw [List.getD_eq_getElem?_getD, List.getElem?_eq_getElem hj, Option.getD_some] at h2
      simpa using h2]
    rfl)
  obtain ⟨R, hR⟩ : ∃ R, R = fitsB p := ⟨_, rfl⟩
  rw [← hR] at NO YES ⊢
  clear hP hR
  go_enter Tryz.func19, Tryz.ntmps19
  go_wp2_with fail
  go_loopg [3, 4] p.length (fun G s3 s4 wr => ∃ (k : Nat) (v4 : Value), k ≤ p.length ∧ G = p.length - k ∧ s3 = .int .i64 k ∧ s4 = v4 ∧ Hid (∀ i, i < k → ∀ j, j < (tmv p i).e.length → ia (tmv p i).e j ≤ 65535) ∧ Kept w wr)
  case atStart => exact ⟨0, _, by omega, rfl, rfl, rfl, Lib.hid (fun i hi => by omega), kept_refl _⟩
  case round =>
    obtain ⟨k, v4, hk, rfl, rfl, rfl, HK, K1⟩ := hrel
    by_cases hlt : k < p.length
    · obtain ⟨ba, off, E, ce, rfl, h0, h1, hE, hlE⟩ := HP.out k hlt
      have H1 := Lib.hid h1
      obtain ⟨el, hel⟩ : ∃ el, el = (tmv p k).e := ⟨_, rfl⟩
      have HEL := Lib.hid hel
      rw [← hel] at hE hlE H1
      have HE := Lib.hid hE
      clear hel hE h0 h1
      go_wp2_with fail
      obtain ⟨W, rfl⟩ : ∃ x, x = wr := ⟨_, rfl⟩
      go_loopg [4] el.length (fun G s4 wx => ∃ (j : Nat), j ≤ el.length ∧ G = el.length - j ∧ s4 = .int .i64 j ∧ Hid (∀ i, i < j → ia el i ≤ 65535) ∧ Kept w wx)
      case atStart => exact ⟨0, by omega, rfl, rfl, Lib.hid (fun i hi => by omega), K1⟩
      case round =>
        clear K1
        obtain ⟨j, hj, rfl, rfl, HJ, K1⟩ := hrel
        have h1 := kept_cell K1 H1.out
        by_cases hjt : j < el.length
        · obtain ⟨b1, o1, rfl, h2⟩ := (HE.out.kept K1).int hjt
          have x0 := h2 j hjt
          obtain ⟨xi, hxi⟩ : ∃ xi, xi = ia el j := ⟨_, rfl⟩
          rw [← hxi] at x0
          have HXI := Lib.hid hxi
          clear h2 hxi
          by_cases c1 : 65535 < xi
          · have d1 : decide (65535 < xi) = true := decide_eq_true c1
            have HRF := Lib.hid (NO.out k hlt j (by rw [← HEL.out]; exact hjt) (by rw [← HEL.out, ← HXI.out]; exact c1))
            clear c1
            go_wp2_with fail
            go_ret
            exact ⟨ret_bool HRF.out.symm, K1⟩
          · have d1 : decide (65535 < xi) = false := decide_eq_false c1
            have HC1 := Lib.hid (show xi ≤ 65535 by omega)
            clear c1
            go_wp2_with fail
            go_roundg (el.length - (j + 1))
            case rel => exact ⟨j + 1, by omega, rfl, by go_num, Lib.hid (fun i hi => by
              rcases Nat.lt_succ_iff_lt_or_eq.1 hi with h | rfl
              · exact HJ.out i h
              · rw [← HXI.out]; exact HC1.out), K1⟩
            case measure => omega
        · obtain rfl : j = el.length := by omega
          go_wp2_with fail
          go_roundg (p.length - (k + 1))
          case rel => exact ⟨k + 1, _, by omega, rfl, by go_num, rfl, Lib.hid (fun i hi => by
            rcases Nat.lt_succ_iff_lt_or_eq.1 hi with h | rfl
            · exact HK.out i h
            · rw [← HEL.out]; exact HJ.out), K1⟩
          case measure => omega
    · obtain rfl : k = p.length := by omega
      have HRF := Lib.hid (YES.out HK.out)
      have dd : decide ((p.length : Int) ≤ 20000) = decide (p.length ≤ 20000) := by
        by_cases h : p.length ≤ 20000
        · rw [decide_eq_true h, decide_eq_true (by omega)]
        · rw [decide_eq_false h, decide_eq_false (by omega)]
      go_wp2_with fail
      go_ret
      exact ⟨by first | exact ret_bool HRF.out.symm | (rw [HRF.out]) | (rw [HRF.out, dd]) | (simp [HRF.out]), K1⟩
end Go.Proofs.YtnjmpjdampdmmaaGreatDoor
