/- Polynomials: two compared; few terms; what the laws ask of results. -/
import Derived.Test.YtnjmpjdampdmmaaGreatDoorC2
set_option linter.unusedVariables false
set_option linter.unusedSimpArgs false
namespace Go.Proofs.YtnjmpjdampdmmaaGreatDoor
open Go.RowKit

def SameTo (p r : List Tm) (k : Nat) : Prop := ∀ j, j < k → tmv p j = tmv r j
theorem sameTo_all {p r : List Tm} (hl : p.length = r.length) (h : SameTo p r p.length) : p = r := by
  apply List.ext_getElem hl
  intro j h1 h2
  have := h j h1
  simpa [tmv, h1, h2] using this
theorem sameTo_next {p r : List Tm} {k : Nat} (h : SameTo p r k) (ht : tmv p k = tmv r k) : SameTo p r (k + 1) := fun j hj => by
  rcases Nat.eq_or_lt_of_le (Nat.le_of_lt_succ hj) with rfl | h3
  · exact ht
  · exact h j h3
theorem tm_ext {x y : Tm} (h1 : x.c = y.c) (h2 : x.e = y.e) : x = y := by cases x; cases y; simp_all
set_option maxRecDepth 100000 in
set_option maxHeartbeats 1000000 in
theorem same38_any (p r : List Tm) (A B : Option Addr) (c d : Nat) (w : World) (hP : RP w A p) (hR : RP w B r) (hl : p.length ≤ 140737488355328) (hl2 : r.length ≤ 140737488355328) :
    Calls Tryz.prog 24 #[.slice A p.length c, .slice B r.length d] w fun e w' => e = .returned (.bool (decide (p = r))) ∧ Kept w w' := by
  by_cases hne : p.length = r.length
  case neg =>
    rw [show decide (p = r) = false from decide_eq_false (fun h => hne (by rw [h]))]
    obtain ⟨m, hm⟩ : ∃ m, m = p.length := ⟨_, rfl⟩
    obtain ⟨n, hn⟩ : ∃ n, n = r.length := ⟨_, rfl⟩
    rw [← hm] at hne hl ⊢
    rw [← hn] at hne hl2 ⊢
    have t1 : ((m : Int) != (n : Int)) = true := by simp; omega
    have t2 : (m != n) = true := by simpa using hne
    clear hm hn hP hR
    go_enter Tryz.func24, Tryz.ntmps24
    go_wp2_with fail
    go_ret
    exact ⟨rfl, kept_refl _⟩
  case pos =>
    obtain ⟨D, hD⟩ : ∃ D, D = decide (p = r) := ⟨_, rfl⟩
    rw [← hD]
    have HD := Lib.hid hD
    have HP := Lib.hid hP; have HR := Lib.hid hR
    have t1 : ((p.length : Int) != (r.length : Int)) = false := by simp; omega
    have t2 : (p.length != r.length) = false := by simpa using hne
    have HL := Lib.hid hne
    clear hP hR hD hne
    go_enter Tryz.func24, Tryz.ntmps24
    go_wp2_with fail
    go_loopg [5] p.length (fun g s5 wr => ∃ k : Nat, k ≤ p.length ∧ g = p.length - k ∧ s5 = .int .i64 k ∧ SameTo p r k ∧ Kept w wr)
    case atStart => exact ⟨0, by omega, rfl, rfl, fun j hj => by omega, kept_refl w⟩
    case round =>
      clear t1 t2
      obtain ⟨k, hk, rfl, rfl, hS, K0⟩ := hrel
      have HS := Lib.hid hS
      clear hS
      by_cases hlt : k < p.length
      · have hlt2 : k < r.length := by have := HL.out; omega
        obtain ⟨b1, o1, E1, c1, rfl, x0, x1, hE1, l1⟩ := (HP.out.kept K0) k hlt
        obtain ⟨b2, o2, E2, c2, rfl, y0, y1, hE2, l2⟩ := (HR.out.kept K0) k hlt2
        obtain ⟨x, hx⟩ : ∃ x, x = tmv p k := ⟨_, rfl⟩
        obtain ⟨y, hy⟩ : ∃ y, y = tmv r k := ⟨_, rfl⟩
        have HX := Lib.hid hx; have HY := Lib.hid hy
        rw [← hx] at x0 x1 hE1 l1
        rw [← hy] at y0 y1 hE2 l2
        clear hx hy
        obtain ⟨xc, xe⟩ := x
        obtain ⟨yc, ye⟩ := y
        dsimp only at x0 x1 hE1 l1 y0 y1 hE2 l2
        have HNE : Hid (tmv p k ≠ tmv r k → D = false) := Lib.hid fun h => by
          rw [HD.out]
          exact decide_eq_false fun e => h (by rw [e])
        by_cases e1 : xc = yc
        · subst e1
          by_cases e2 : xe.length = ye.length
          · have C48 := Lib.hid fun (w' : World) (kk : Kept wr w') => rcompare48_any xe ye E1 E2 c1 c2 w' (hE1.kept kk) (hE2.kept kk) e2 l1
            have t3 : ((xe.length : Int) != (ye.length : Int)) = false := by simp; omega
            have t4 : (xe.length != ye.length) = false := by simpa using e2
            have HL2 := Lib.hid e2
            clear hE1 hE2 e2
            by_cases e3 : cmpL xe ye = 0
            · have HE := Lib.hid (show tmv p k = tmv r k by rw [← HX.out, ← HY.out]; exact tm_ext rfl (cmpL_eq HL2.out e3))
              rw [e3] at C48
              clear e3
              go_wp2_with fail
              go_quiet ((go_at_call 34; exact Calls.quiet_of (C48.out _ (below_drewN (kept_refl _) _))))
              go_wp2_with fail
              go_roundg (p.length - (k + 1))
              case rel => exact ⟨k + 1, by omega, rfl, by go_num, sameTo_next HS.out HE.out, below_drewN K0 _⟩
              case measure => omega
            · have HB := Lib.hid (show D = false from HNE.out (fun h => by rw [← HX.out, ← HY.out] at h; injection h with _ h; subst h; exact e3 (cmpL_self _)))
              obtain ⟨cv, hcv⟩ : ∃ cv, cv = cmpL xe ye := ⟨_, rfl⟩
              rw [← hcv] at C48 e3
              have t5 : (cv != 0) = true := by simpa using e3
              clear hcv e3
              go_wp2_with fail
              go_quiet ((go_at_call 34; exact Calls.quiet_of (C48.out _ (below_drewN (kept_refl _) _))))
              go_wp2_with fail
              go_ret
              exact ⟨ret_bool HB.out.symm, below_drewN K0 _⟩
          · have HB := Lib.hid (show D = false from HNE.out (fun h => by rw [← HX.out, ← HY.out] at h; injection h with _ h; subst h; exact e2 rfl))
            have t3 : ((xe.length : Int) != (ye.length : Int)) = true := by simp; omega
            have t4 : (xe.length != ye.length) = true := by simpa using e2
            clear hE1 hE2 e2
            go_wp2_with fail
            go_quiet (fail)
            go_wp2_with fail
            go_ret
            exact ⟨ret_bool HB.out.symm, below_drewN K0 _⟩
        · have HB := Lib.hid (show D = false from HNE.out (fun h => by rw [← HX.out, ← HY.out] at h; injection h with h _; exact e1 h))
          have t3 : (xc != yc) = true := by simpa using e1
          clear hE1 hE2 e1
          go_wp2_with fail
          go_quiet (fail)
          go_wp2_with fail
          go_ret
          exact ⟨ret_bool HB.out.symm, below_drewN K0 _⟩
      · obtain rfl : k = p.length := by omega
        have HB := Lib.hid (show D = true by rw [HD.out]; exact decide_eq_true (sameTo_all HL.out HS.out))
        go_wp2_with fail
        go_ret
        exact ⟨ret_bool HB.out.symm, K0⟩

/-! ### few terms -/
def fewT (most : Int) : Int → List Tm → Int
  | n, [] => n
  | n, t :: l => if n ≤ most then fewT most (n + t.e.length) l else n
def fewL (most : Int) : Int → List (List Tm) → Int
  | n, [] => n
  | n, p :: l => fewL most (fewT most (n + p.length) p) l
def fewB (most : Int) (l : List (List Tm)) : Bool := decide (fewL most 0 l ≤ most)
/-- A list of polynomials lies at A. -/
def RPP (w : World) (A : Option Addr) (ps : List (List Tm)) : Prop := ∀ j, j < ps.length → ∃ b off E c, A = some ⟨b, off, none⟩ ∧ w.cell? ⟨b, off + j, none⟩ = some (.slice E (ps.getD j []).length c) ∧ RP w E (ps.getD j []) ∧ (ps.getD j []).length ≤ 140737488355328
theorem RPP.kept {w w1 : World} {A : Option Addr} {ps : List (List Tm)} (h : RPP w A ps) (k : Kept w w1) : RPP w1 A ps := fun j hj => by
  obtain ⟨b, off, E, c, e, h0, h1, h2⟩ := h j hj
  exact ⟨b, off, E, c, e, kept_cell k h0, h1.kept k, h2⟩
theorem fewT_step {most n : Int} {l : List Tm} {k : Nat} (h : k < l.length) (h1 : n ≤ most) : fewT most n (l.drop k) = fewT most (n + (tmv l k).e.length) (l.drop (k + 1)) := by
  rw [List.drop_eq_getElem_cons h, fewT, if_pos h1]
  simp [tmv, h]
theorem fewT_over {most n : Int} (h : ¬ n ≤ most) : ∀ l, fewT most n l = n
  | [] => rfl
  | t :: l => by rw [fewT, if_neg h]
theorem fewL_step {most n : Int} {l : List (List Tm)} {k : Nat} (h : k < l.length) : fewL most n (l.drop k) = fewL most (fewT most (n + (l.getD k []).length) (l.getD k [])) (l.drop (k + 1)) := by
  rw [List.drop_eq_getElem_cons h, fewL]
  simp [h]
set_option maxRecDepth 100000 in
set_option maxHeartbeats 1000000 in
theorem few12_any (most : Int) (ps : List (List Tm)) (A : Option Addr) (c : Nat) (w : World) (hm0 : 0 ≤ most) (hm : most ≤ 1000000) (hA : RPP w A ps) (hl : ps.length ≤ 200) :
    Calls Tryz.prog 6 #[.int .i64 most, .slice A ps.length c] w fun e w' => e = .returned (.bool (fewB most ps)) ∧ w = w' := by
  obtain ⟨D, hD⟩ : ∃ D, D = fewB most ps := ⟨_, rfl⟩
  rw [← hD]
  have HD := Lib.hid hD
  have HA := Lib.hid hA
  clear hD hA
  go_enter Tryz.func6, Tryz.ntmps6
  go_wp2_with fail
  go_loopg [5, 6, 7] ps.length (fun g s5 s6 s7 wr => ∃ (i : Nat) (n : Int) (v : Value), i ≤ ps.length ∧ g = ps.length - i ∧ s5 = .int .i64 n ∧ s6 = .int .i64 i ∧ s7 = v ∧ 0 ≤ n ∧ n ≤ 1000000 + i * 300000000000000 ∧ fewL most 0 ps = fewL most n (ps.drop i) ∧ w = wr)
  case atStart => exact ⟨0, 0, _, by omega, rfl, rfl, rfl, rfl, by omega, by omega, by simp, rfl⟩
  case round =>
    obtain ⟨i, n, v, hi, rfl, rfl, rfl, rfl, n0, n1, hf, rfl⟩ := hrel
    have HF := Lib.hid hf
    clear hf
    by_cases hlt : i < ps.length
    · obtain ⟨b, off, E, c1, rfl, x0, hE, l1⟩ := HA.out i hlt
      have HS := Lib.hid (fewL_step (most := most) (n := n) hlt)
      obtain ⟨p, hp⟩ : ∃ p, p = ps.getD i [] := ⟨_, rfl⟩
      rw [← hp] at x0 hE l1 HS
      have HE := Lib.hid hE
      clear hp hE
      obtain ⟨nm, hnm⟩ : ∃ nm, nm = n + p.length := ⟨_, rfl⟩
      go_wp2_with fail
      go_loopg [5, 7] p.length (fun g s5 s7 wr => ∃ (k : Nat) (m : Int), k ≤ p.length ∧ g = p.length - k ∧ s5 = .int .i64 m ∧ s7 = .int .i64 k ∧ 0 ≤ m ∧ m ≤ 1000000 + i * 300000000000000 + 300000000000000 ∧ (m ≤ most ∨ m = n + p.length ∨ m ≤ 1000000 + 140737488355328) ∧ fewT most nm p = fewT most m (p.drop k) ∧ w = wr)
      case atStart => exact ⟨0, n + p.length, by omega, rfl, rfl, rfl, by omega, by omega, by omega, by rw [hnm]; simp, rfl⟩
      case round =>
        obtain ⟨k, m, hk, rfl, rfl, rfl, m0, m1, m2, hf2, rfl⟩ := hrel
        have HF2 := Lib.hid hf2
        clear hf2
        by_cases hk2 : k < p.length
        · obtain ⟨b2, o2, E2, c2, rfl, y0, y1, hE2, l2⟩ := HE.out k hk2
          clear hE2 y0
          by_cases hmm : m ≤ most
          · have HT := Lib.hid (fewT_step hk2 hmm)
            obtain ⟨el, hel⟩ : ∃ el, el = (tmv p k).e.length := ⟨_, rfl⟩
            rw [← hel] at y1 l2 HT
            clear hel
            go_wp2_with fail
            go_roundg (p.length - (k + 1))
            case rel => exact ⟨k + 1, m + el, by omega, rfl, rfl, by go_num, by omega, by omega, by omega, by rw [HF2.out, HT.out], rfl⟩
            case measure => omega
          · have d1 : decide (m ≤ most) = false := decide_eq_false hmm
            have HO := Lib.hid (fewT_over hmm (p.drop k))
            go_wp2_with fail
            go_roundg (ps.length - (i + 1))
            case rel => exact ⟨i + 1, m, _, by omega, rfl, rfl, by go_num, rfl, m0, by omega, by rw [HF.out, HS.out, ← hnm, HF2.out, HO.out], rfl⟩
            case measure => omega
        · obtain rfl : k = p.length := by omega
          have HO := Lib.hid (show fewT most m (p.drop p.length) = m by rw [List.drop_length]; rfl)
          go_wp2_with fail
          go_roundg (ps.length - (i + 1))
          case rel => exact ⟨i + 1, m, _, by omega, rfl, rfl, by go_num, rfl, m0, by omega, by rw [HF.out, HS.out, ← hnm, HF2.out, HO.out], rfl⟩
          case measure => omega
    · obtain rfl : i = ps.length := by omega
      have HO := Lib.hid (show fewL most n (ps.drop ps.length) = n by rw [List.drop_length]; rfl)
      go_wp2_with fail
      go_ret
      exact ⟨ret_bool (by rw [HD.out, fewB, HF.out, HO.out]), rfl⟩

set_option maxRecDepth 100000 in
set_option maxHeartbeats 1000000 in
theorem is16_err (x : Int) (A B : Option Addr) (c d : Nat) (n : Nat) (w : World) (hx : x ≠ 0) : Calls Tryz.prog 11 #[.slice A 0 c, .int .i64 x, .slice B n d, .int .i64 x] w fun e w' => e = .returned (.bool true) ∧ Kept w w' := by
  have d1 : (x == 0) = false := by simpa using hx
  have d2 : (x != 0) = true := by simpa using hx
  clear hx
  go_enter Tryz.func11, Tryz.ntmps11
  go_wp2_with fail
  go_ret
  exact ⟨rfl, kept_refl _⟩
set_option maxRecDepth 100000 in
set_option maxHeartbeats 1000000 in
theorem is16_ok (p r : List Tm) (A B : Option Addr) (c d : Nat) (w : World) (hP : RP w A p) (hR : RP w B r) (hl : p.length ≤ 140737488355328) (hl2 : r.length ≤ 140737488355328) :
    Calls Tryz.prog 11 #[.slice A p.length c, .int .i64 0, .slice B r.length d, .int .i64 0] w fun e w' => e = .returned (.bool (decide (p = r))) ∧ Kept w w' := by
  have C := Lib.hid (same38_any p r A B c d w hP hR hl hl2)
  obtain ⟨D, hD⟩ : ∃ D, D = decide (p = r) := ⟨_, rfl⟩
  rw [← hD] at C ⊢
  clear hP hR hD
  go_enter Tryz.func11, Tryz.ntmps11
  go_wp2_with (go_at_call 24; ((with_reducible refine C.out.mono ?_); rintro e w1 ⟨rfl, k1⟩))
  go_ret
  exact ⟨rfl, k1⟩
end Go.Proofs.YtnjmpjdampdmmaaGreatDoor
