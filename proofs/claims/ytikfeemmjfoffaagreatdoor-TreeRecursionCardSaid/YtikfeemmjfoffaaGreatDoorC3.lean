/- Polynomials: two compared; few terms; what the laws ask of results. -/
import Derived.Test.YtikfeemmjfoffaaGreatDoorC2
set_option linter.unusedVariables false
set_option linter.unusedSimpArgs false
namespace Go.Proofs.YtikfeemmjfoffaaGreatDoor
open Go.RowKit

def SameTo (p r : List Tm) (k : Nat) : Prop := ∀ j, j < k → tmv p j = tmv r j
theorem sameTo_all {p r : List Tm} (hl : p.length = r.length) (h : SameTo p r p.length) : p = r := by
  apply List.ext_getElem hl
  intro j h1 h2
  have := h j h1
  simpa [tmv, h1, h2] using this
theorem sameTo_next {p r : List Tm} {k : Nat} (h : SameTo p r k) (ht : tmv p k = tmv r k) : SameTo p r (k + 1) := fun j hj => by
  rcases Nat.eq_or_lt_of_le (Nat.le_of_lt_succ hj) with rfl | h3
  · exact ht
  · exact h j h3
theorem tm_ext {x y : Tm} (h1 : x.c = y.c) (h2 : x.e = y.e) : x = y := by cases x; cases y; simp_all
set_option maxRecDepth 100000 in
set_option maxHeartbeats 1000000 in
theorem same38_any (p r : List Tm) (A B : Option Addr) (c d : Nat) (w : World) (hP : RP w A p) (hR : RP w B r) (hl : p.length ≤ 140737488355328) (hl2 : r.length ≤ 140737488355328) :
    Calls Tryz.prog 14 #[.slice A p.length c, .slice B r.length d] w fun e w' => e = .returned (.bool (decide (p = r))) ∧ Kept w w' := by
  by_cases hne : p.length = r.length
  case neg =>
    rw [show decide (p = r) = false from decide_eq_false (fun h => hne (by rw [h]))]
    obtain ⟨m, hm⟩ : ∃ m, m = p.length := ⟨_, rfl⟩
    obtain ⟨n, hn⟩ : ∃ n, n = r.length := ⟨_, rfl⟩
    rw [← hm] at hne hl ⊢
    rw [← hn] at hne hl2 ⊢
    have t1 : ((m : Int) != (n : Int)) = true := by simp; omega
    have t2 : (m != n) = true := by simpa using hne
    clear hm hn hP hR
    go_enter Tryz.func14, Tryz.ntmps14
    go_wp2_with fail
    go_ret
    exact ⟨rfl, kept_refl _⟩
  case pos =>
    obtain ⟨D, hD⟩ : ∃ D, D = decide (p = r) := ⟨_, rfl⟩
    rw [← hD]
    have HD := Lib.hid hD
    have HP := Lib.hid hP; have HR := Lib.hid hR
    have t1 : ((p.length : Int) != (r.length : Int)) = false := by simp; omega
    have t2 : (p.length != r.length) = false := by simpa using hne
    have HL := Lib.hid hne
    clear hP hR hD hne
    go_enter Tryz.func14, Tryz.ntmps14
    go_wp2_with fail
    go_loopg [5] p.length (fun g s5 wr => ∃ k : Nat, k ≤ p.length ∧ g = p.length - k ∧ s5 = .int .i64 k ∧ SameTo p r k ∧ Kept w wr)
    case atStart => exact ⟨0, by omega, rfl, rfl, fun j hj => by omega, kept_refl w⟩
    case round =>
      clear t1 t2
      obtain ⟨k, hk, rfl, rfl, hS, K0⟩ := hrel
      have HS := Lib.hid hS
      clear hS
      by_cases hlt : k < p.length
      · have hlt2 : k < r.length := by have := HL.out; omega
        obtain ⟨b1, o1, E1, c1, rfl, x0, x1, hE1, l1⟩ := (HP.out.kept K0) k hlt
        obtain ⟨b2, o2, E2, c2, rfl, y0, y1, hE2, l2⟩ := (HR.out.kept K0) k hlt2
        obtain ⟨x, hx⟩ : ∃ x, x = tmv p k := ⟨_, rfl⟩
        obtain ⟨y, hy⟩ : ∃ y, y = tmv r k := ⟨_, rfl⟩
        have HX := Lib.hid hx; have HY := Lib.hid hy
        rw [← hx] at x0 x1 hE1 l1
        rw [← hy] at y0 y1 hE2 l2
        clear hx hy
        obtain ⟨xc, xe⟩ := x
        obtain ⟨yc, ye⟩ := y
        dsimp only at x0 x1 hE1 l1 y0 y1 hE2 l2
        have HNE : Hid (tmv p k ≠ tmv r k → D = false) := Lib.hid fun h => by
          rw [HD.out]
          exact decide_eq_false fun e => h (by rw [e])
        by_cases e1 : xc = yc
        · subst e1
          by_cases e2 : xe.length = ye.length
          · have C48 := Lib.hid fun (w' : World) (kk : Kept wr w') => rcompare48_any xe ye E1 E2 c1 c2 w' (hE1.kept kk) (hE2.kept kk) e2 l1
            have t3 : ((xe.length : Int) != (ye.length : Int)) = false := by simp; omega
            have t4 : (xe.length != ye.length) = false := by simpa using e2
            have HL2 := Lib.hid e2
            clear hE1 hE2 e2
            by_cases e3 : cmpL xe ye = 0
            · have HE := Lib.hid (show tmv p k = tmv r k by rw [← HX.out, ← HY.out]; exact tm_ext rfl (cmpL_eq HL2.out e3))
              rw [e3] at C48
              clear e3
              go_wp2_with fail
              go_quiet ((go_at_call 39; exact Calls.quiet_of (C48.out _ (below_drewN (kept_refl _) _))))
              go_wp2_with fail
              go_roundg (p.length - (k + 1))
              case rel => exact ⟨k + 1, by omega, rfl, by go_num, sameTo_next HS.out HE.out, below_drewN K0 _⟩
              case measure => omega
            · have HB := Lib.hid (show D = false from HNE.out (fun h => by rw [← HX.out, ← HY.out] at h; injection h with _ h; subst h; exact e3 (cmpL_self _)))
              obtain ⟨cv, hcv⟩ : ∃ cv, cv = cmpL xe ye := ⟨_, rfl⟩
              rw [← hcv] at C48 e3
              have t5 : (cv != 0) = true := by simpa using e3
              clear hcv e3
              go_wp2_with fail
              go_quiet ((go_at_call 39; exact Calls.quiet_of (C48.out _ (below_drewN (kept_refl _) _))))
              go_wp2_with fail
              go_ret
              exact ⟨ret_bool HB.out.symm, below_drewN K0 _⟩
          · have HB := Lib.hid (show D = false from HNE.out (fun h => by rw [← HX.out, ← HY.out] at h; injection h with _ h; subst h; exact e2 rfl))
            have t3 : ((xe.length : Int) != (ye.length : Int)) = true := by simp; omega
            have t4 : (xe.length != ye.length) = true := by simpa using e2
            clear hE1 hE2 e2
            go_wp2_with fail
            go_quiet (fail)
            go_wp2_with fail
            go_ret
            exact ⟨ret_bool HB.out.symm, below_drewN K0 _⟩
        · have HB := Lib.hid (show D = false from HNE.out (fun h => by rw [← HX.out, ← HY.out] at h; injection h with h _; exact e1 h))
          have t3 : (xc != yc) = true := by simpa using e1
          clear hE1 hE2 e1
          go_wp2_with fail
          go_quiet (fail)
          go_wp2_with fail
          go_ret
          exact ⟨ret_bool HB.out.symm, below_drewN K0 _⟩
      · obtain rfl : k = p.length := by omega
        have HB := Lib.hid (show D = true by rw [HD.out]; exact decide_eq_true (sameTo_all HL.out HS.out))
        go_wp2_with fail
        go_ret
        exact ⟨ret_bool HB.out.symm, K0⟩

/-! ### few terms -/
def fewT (most : Int) : Int → List Tm → Int
  | n, [] => n
  | n, t :: l => if n ≤ most then fewT most (n + t.e.length) l else n
def fewL (most : Int) : Int → List (List Tm) → Int
  | n, [] => n
  | n, p :: l => fewL most (fewT most (n + p.length) p) l
def fewB (most : Int) (l : List (List Tm)) : Bool := decide (fewL most 0 l ≤ most)
/-- A list of polynomials lies at A. -/
def RPP (w : World) (A : Option Addr) (ps : List (List Tm)) : Prop := ∀ j, j < ps.length → ∃ b off E c, A = some ⟨b, off, none⟩ ∧ w.cell? ⟨b, off + j, none⟩ = some (.slice E (ps.getD j []).length c) ∧ RP w E (ps.getD j []) ∧ (ps.getD j []).length ≤ 140737488355328
theorem RPP.kept {w w1 : World} {A : Option Addr} {ps : List (List Tm)} (h : RPP w A ps) (k : Kept w w1) : RPP w1 A ps := fun j hj => by
  obtain ⟨b, off, E, c, e, h0, h1, h2⟩ := h j hj
  exact ⟨b, off, E, c, e, kept_cell k h0, h1.kept k, h2⟩
theorem fewT_step {most n : Int} {l : List Tm} {k : Nat} (h : k < l.length) (h1 : n ≤ most) : fewT most n (l.drop k) = fewT most (n + (tmv l k).e.length) (l.drop (k + 1)) := by
  rw [List.drop_eq_getElem_cons h, fewT, if_pos h1]
  simp [tmv, h]
theorem fewT_over {most n : Int} (h : ¬ n ≤ most) : ∀ l, fewT most n l = n
  | [] => rfl
  | t :: l => by rw [fewT, if_neg h]
theorem fewL_step {most n : Int} {l : List (List Tm)} {k : Nat} (h : k < l.length) : fewL most n (l.drop k) = fewL most (fewT most (n + (l.getD k []).length) (l.getD k [])) (l.drop (k + 1)) := by
  rw [List.drop_eq_getElem_cons h, fewL]
  simp [h]
end Go.Proofs.YtikfeemmjfoffaaGreatDoor
