/- Polynomials: the exported sum; the law's sums and products. -/
import Derived.Test.YtnjmpjdampdmmaaGreatDoorA5
import Derived.Test.YtnjmpjdampdmmaaGreatDoorC24
import Derived.Test.YtnjmpjdampdmmaaGreatDoorL6
set_option linter.unusedVariables false
set_option linter.unusedSimpArgs false
namespace Go.Proofs.YtnjmpjdampdmmaaGreatDoor
open Go.RowKit Go.Shelf Go.Maps

set_option maxRecDepth 100000 in
set_option maxHeartbeats 1000000 in
theorem add71_yes (P M n : Int) (p r : List Tm) (A B : Option Addr) (c d : Nat) (w : World) (hP : RP w A p) (hR : RP w B r) (hv : vld (ordF P M) n p = true) (hv2 : vld (ordF P M) n r = true) (hpr : p.length + r.length ≤ 20000) :
    Calls Tryz.prog 8 #[fV P M, .int .i64 n, .slice A p.length c, .slice B r.length d] w (AddYes P M p r w) := by
  obtain ⟨hn, hl, tl⟩ := vld_terms hv
  obtain ⟨_, hl2, tl2⟩ := vld_terms hv2
  have ok := vld_ok hv
  have C1 := Lib.hid fun w' (k : Kept w w') => valid25_any P M n p A c w' (hP.kept k) (by omega)
  have C2 := Lib.hid fun w' (k : Kept w w') => valid25_any P M n r B d w' (hR.kept k) (by omega)
  have C3 := Lib.hid fun w' (k : Kept w w') => add75_any P M n.toNat p r A B c d w' ok (hP.kept k) (hR.kept k) (by omega) (vld_tms hv) (vld_tms hv2) hpr
  rw [hv] at C1
  rw [hv2] at C2
  unfold AddYes at C3
  unfold fV at *
  have K0 := kept_alloc (kept_refl w) (.cells #[.int .i64 P, .int .i64 M] 23)
  have o3 := Own.new w 23 [.int .i64 P, .int .i64 M]
  clear hP hR hv hv2 hpr ok tl tl2
  go_enter Tryz.func8, Tryz.ntmps8
  go_upto_region 1 with fail
  obtain ⟨w0, hw0⟩ : ∃ w0, w0 = w.alloc (.cells #[.int .i64 P, .int .i64 M] 23) := ⟨_, rfl⟩
  rw [← hw0] at K0 o3 ⊢
  have y0 := o3.cell (j := 0) rfl; have y1 := o3.cell (j := 1) rfl
  have D1 := Lib.hid (C1.out w0 K0)
  clear hw0
  go_wp2_with (first
    | (go_at_call 29; ((with_reducible refine D1.out.mono ?_); rintro e w1 ⟨rfl, k1⟩; replace y0 := kept_cell k1 y0; replace y1 := kept_cell k1 y1; replace K0 := kept_trans K0 k1))
    | (go_at_call 29; ((with_reducible refine (C2.out _ K0).mono ?_); rintro e w2 ⟨rfl, k2⟩; replace y0 := kept_cell k2 y0; replace y1 := kept_cell k2 y1; replace K0 := kept_trans K0 k2))
    | (go_at_call 30; ((with_reducible refine (C3.out _ K0).mono ?_); rintro e w3 ⟨A', c', out, rfl, ho, hrp, k3⟩; have HO := Lib.hid ho; clear ho)))
  go_ret2
  exact ⟨A', c', out, rfl, HO.out, hrp, kept_trans K0 k3⟩
/-- What the law's sum gives: the sum, true. -/
def AddB (P M : Int) (p r : List Tm) (w : World) (e : Ending) (w' : World) : Prop := ∃ (A' : Option Addr) (c' : Nat) (out : List Tm), e = .returned (.tuple #[.slice A' out.length c', .bool true]) ∧ out = adT P M p r ∧ RP w' A' out ∧ Kept w w'
/-- The product, or nothing where a sum of exponents is over the limit. -/
def mulO (P M : Int) (p r : List Tm) : List Tm := if noOv p r = true then prT P M p r else []
def MulB (P M : Int) (p r : List Tm) (w : World) (e : Ending) (w' : World) : Prop := ∃ (A' : Option Addr) (c' : Nat) (out : List Tm), e = .returned (.tuple #[.slice A' out.length c', .bool (noOv p r)]) ∧ out = mulO P M p r ∧ RP w' A' out ∧ Kept w w'
/-! ### What is valid -/
theorem canonVld {q : Int} {n : Nat} {p : List Tm} (hq : q ≠ 0) (hn : n ≤ 80) (hl : p.length ≤ 20000) (hc : Canon q n p) (he : ∀ t ∈ p, ∀ x ∈ t.e, 0 ≤ x ∧ x ≤ 65535) : vld q n p = true := by
  refine vld_good (by omega) (by omega) hl hq fun j hj => ?_
  have hm := tmv_mem hj
  refine tok_parts.2 ⟨(hc.c _ hm).1, (hc.c _ hm).2, by rw [hc.len _ hm], ?_, ?_⟩
  · rcases Nat.eq_zero_or_pos j with h | h
    · exact .inl h
    · right
      have := List.pairwise_iff_getElem.1 hc.rise (j - 1) j (by omega) hj (by omega)
      rw [show tmv p (j - 1) = p[j - 1] by simp [tmv, show j - 1 < p.length by omega], show tmv p j = p[j] by simp [tmv, hj]]
      exact this
  · rw [List.all_eq_true]
    intro x hx
    have := he _ hm x hx
    simp [eOk, this.1, this.2]
theorem vld_exps {P M n : Int} {p : List Tm} (hv : vld (ordF P M) n p = true) : ∀ t ∈ p, ∀ x ∈ t.e, 0 ≤ x ∧ x ≤ 65535 := fun t ht => ((vld_tms hv).mem ht).2.2.2
theorem ad_len {P M : Int} {p r : List Tm} : (adT P M p r).length ≤ p.length + r.length := by
  have h5 := totalT_len (addF P M) (p ++ r).length ((p ++ r).map fun t => [t])
  have h6 : sumLen ((p ++ r).map fun t => [t]) = (p ++ r).length := by
    have := sumLen_one id (p ++ r)
    rwa [List.map_id] at this
  rw [h6, List.length_append] at h5
  unfold adT
  rw [List.length_append]
  exact h5
theorem ad_vld {P M n : Int} {p r : List Tm} (hp : vld (ordF P M) n p = true) (hr : vld (ordF P M) n r = true) (hl : p.length + r.length ≤ 20000) : vld (ordF P M) n (adT P M p r) = true := by
  have ok := vld_ok hp
  have F := fldF ok
  obtain ⟨hn, _, _⟩ := vld_terms hp
  obtain ⟨c1, s1⟩ := adG_spec F (vld_canon hp) (vld_canon hr)
  have hq := ord_ok ok
  have := canonVld (q := ordF P M) (n := n.toNat) (p := adT P M p r) (by omega) (by omega) (Nat.le_trans ad_len hl) c1 (fun z hz => by
    have h3 := c1.coef_ne F.toAddOk hz
    have h4 := c1.c z hz
    obtain ⟨y, hy, e⟩ := coef_mem (add := addF P M) (l := p ++ r) (e := z.e) (by
      rw [coef_append F.toAddOk z.e (vld_canon hp).within (vld_canon hr).within, ← s1 z.e]
      have := c1.coef_ne F.toAddOk hz
      omega)
    rw [← e]
    rcases List.mem_append.1 hy with h | h
    · exact vld_exps hp y h
    · exact vld_exps hr y h)
  rwa [show ((n.toNat : Nat) : Int) = n by omega] at this
theorem vld_nil {P M n : Int} {p : List Tm} (hp : vld (ordF P M) n p = true) : vld (ordF P M) n [] = true := by
  obtain ⟨hn, _, _⟩ := vld_terms hp
  have hq := ord_ok (vld_ok hp)
  exact vld_good hn.1 hn.2 (by simp) (by omega) (fun j hj => by simp at hj)
theorem pr_vld {P M n : Int} {p r : List Tm} (hp : vld (ordF P M) n p = true) (hr : vld (ordF P M) n r = true) (hl : p.length * r.length ≤ 20000) (hno : noOv p r = true) : vld (ordF P M) n (prd (addF P M) (mulF P M) p r) = true := by
  have ok := vld_ok hp
  have F := fldF ok
  obtain ⟨hn, _, _⟩ := vld_terms hp
  have h1 := prd_spec F (vld_canon hp) (vld_canon hr)
  have hq := ord_ok ok
  have := canonVld (q := ordF P M) (n := n.toNat) (p := prd (addF P M) (mulF P M) p r) (by omega) (by omega) (Nat.le_trans prd_len hl) h1.1 (fun z hz => by
    obtain ⟨t, ht, u, hu, e⟩ := prd_mem F (vld_canon hp) (vld_canon hr) hz
    have h2 := noOv_iff.1 hno t ht u hu
    rw [e]
    intro x hx
    have h3 := of_decide_eq_true (List.all_eq_true.1 h2 x hx)
    have hl1 := (vld_canon hp).len t ht
    have hl2 := (vld_canon hr).len u hu
    obtain ⟨k, hk, rfl⟩ := List.getElem_of_mem hx
    have hkl : k < t.e.length := by rw [addE_len (n := n.toNat) hl1 hl2] at hk; omega
    have h4 := ia_addE (e := t.e) (f := u.e) (by omega) hkl
    have h5 := vld_exps hp t ht (ia t.e k) (ia_mem hkl)
    have h6 := vld_exps hr u hu (ia u.e k) (ia_mem (by omega))
    unfold ia at h4
    rw [List.getD_eq_getElem?_getD, List.getElem?_eq_getElem hk, Option.getD_some] at h4
    refine ⟨?_, h3⟩
    rw [h4]
    unfold ia at h5 h6
    omega)
  rwa [show ((n.toNat : Nat) : Int) = n by omega] at this
theorem prT_prd {P M n : Int} {p r : List Tm} (hp : vld (ordF P M) n p = true) (hr : vld (ordF P M) n r = true) : prT P M p r = prd (addF P M) (mulF P M) p r := prd_single (fldF (vld_ok hp)) (vld_canon hp) (vld_canon hr)
theorem mulO_vld {P M n : Int} {p r : List Tm} (hp : vld (ordF P M) n p = true) (hr : vld (ordF P M) n r = true) (hl : p.length * r.length ≤ 20000) : vld (ordF P M) n (mulO P M p r) = true := by
  unfold mulO
  split
  · rename_i h
    rw [prT_prd hp hr]
    exact pr_vld hp hr hl h
  · exact vld_nil hp
theorem mulO_len {P M n : Int} {p r : List Tm} (hp : vld (ordF P M) n p = true) (hr : vld (ordF P M) n r = true) : (mulO P M p r).length ≤ p.length * r.length := by
  unfold mulO
  split
  · rw [prT_prd hp hr]; exact prd_len
  · exact Nat.zero_le _
theorem noOv_comm {p r : List Tm} : noOv p r = noOv r p := by
  apply Bool.eq_iff_iff.2
  rw [noOv_iff, noOv_iff]
  constructor
  · intro h t ht u hu; rw [addE_comm]; exact h u hu t ht
  · intro h t ht u hu; rw [addE_comm]; exact h u hu t ht
theorem few_three {most : Int} {p r s : List Tm} (h : fewB most [p, r, s] = true) : (p.length + eSum p + r.length + eSum r + s.length + eSum s : Int) ≤ most := by
  have h1 := of_decide_eq_true h
  simp only [fewL] at h1
  have h2 := fewT_sum _ _ h1
  have h3 : fewT most (fewT most (0 + (p.length : Int)) p + (r.length : Int)) r ≤ most := by omega
  have h4 := fewT_sum _ _ h3
  have h5 : fewT most (0 + (p.length : Int)) p ≤ most := by omega
  have h6 := fewT_sum _ _ h5
  omega
/-- The sizes of three polynomials with at most 60 terms and exponents. -/
theorem few_sizes {q : Int} {n : Nat} {p r s : List Tm} (h : fewB 60 [p, r, s] = true) (hp : Canon q n p) (hr : Canon q n r) (hs : Canon q n s) : p.length ≤ 30 ∧ r.length ≤ 30 ∧ s.length ≤ 30 ∧ p.length * r.length * s.length ≤ 20000 := by
  have h1 := few_three h
  rw [eSum_all hp.len, eSum_all hr.len, eSum_all hs.len] at h1
  rcases Nat.eq_zero_or_pos n with h0 | h0
  · subst h0
    have a := canon_zero hp
    have b := canon_zero hr
    have c := canon_zero hs
    exact ⟨by omega, by omega, by omega, Nat.le_trans (Nat.mul_le_mul (Nat.mul_le_mul a b) c) (by decide)⟩
  · have a : p.length ≤ p.length * n := Nat.le_mul_of_pos_right _ h0
    have b : r.length ≤ r.length * n := Nat.le_mul_of_pos_right _ h0
    have c : s.length ≤ s.length * n := Nat.le_mul_of_pos_right _ h0
    generalize p.length * n = x at *
    generalize r.length * n = y at *
    generalize s.length * n = z at *
    refine ⟨by omega, by omega, by omega, ?_⟩
    rcases Nat.lt_or_ge 10 p.length with h2 | h2
    · rcases Nat.lt_or_ge 10 r.length with h3 | h3
      · exact Nat.le_trans (Nat.mul_le_mul (Nat.mul_le_mul (show p.length ≤ 30 by omega) (show r.length ≤ 30 by omega)) (show s.length ≤ 10 by omega)) (by decide)
      · exact Nat.le_trans (Nat.mul_le_mul (Nat.mul_le_mul (show p.length ≤ 30 by omega) h3) (show s.length ≤ 30 by omega)) (by decide)
    · exact Nat.le_trans (Nat.mul_le_mul (Nat.mul_le_mul h2 (show r.length ≤ 30 by omega)) (show s.length ≤ 30 by omega)) (by decide)
theorem degTo_range {p : List Tm} (h : ∀ t ∈ p, 0 ≤ degT t ∧ degT t ≤ 5242800) : ∀ k, k ≤ p.length → -1 ≤ degTo p k ∧ degTo p k ≤ 5242800
  | 0, _ => by simp [degTo_zero]
  | k + 1, hk => by
    have ih := degTo_range h k (by omega)
    have h1 := h _ (tmv_mem (p := p) (k := k) (by omega))
    rw [degTo_succ (by omega)]
    omega
theorem deg_range {P M n : Int} {p : List Tm} (hv : vld (ordF P M) n p = true) : -1 ≤ degP p ∧ degP p ≤ 5242800 := by
  obtain ⟨hn, _, _⟩ := vld_terms hv
  refine degTo_range (fun t ht => ?_) p.length (Nat.le_refl _)
  have h := (vld_tms hv).mem ht
  have h2 := sumTk_range h.2.2.2 (Nat.le_refl t.e.length)
  rw [sumTk_all] at h2
  unfold degT
  omega
theorem rpp_three {w : World} {A B C : Option Addr} {c d e : Nat} {p r s : List Tm} (hP : RP w A p) (hR : RP w B r) (hS : RP w C s) (hl : p.length ≤ 140737488355328) (hl2 : r.length ≤ 140737488355328) (hl3 : s.length ≤ 140737488355328) : RPP (w.alloc (.cells #[.slice A p.length c, .slice B r.length d, .slice C s.length e] 25)) (some ⟨w.heap.size, 0, none⟩) [p, r, s] := fun j hj => by
  have o := Own.new w 25 [.slice A p.length c, .slice B r.length d, .slice C s.length e]
  have k := kept_alloc (kept_refl w) (.cells #[.slice A p.length c, .slice B r.length d, .slice C s.length e] 25)
  match j, hj with
  | 0, _ => exact ⟨w.heap.size, 0, A, c, rfl, o.cell (j := 0) rfl, hP.kept k, hl⟩
  | 1, _ => exact ⟨w.heap.size, 0, B, d, rfl, o.cell (j := 1) rfl, hR.kept k, hl2⟩
  | 2, _ => exact ⟨w.heap.size, 0, C, e, rfl, o.cell (j := 2) rfl, hS.kept k, hl3⟩
end Go.Proofs.YtnjmpjdampdmmaaGreatDoor
