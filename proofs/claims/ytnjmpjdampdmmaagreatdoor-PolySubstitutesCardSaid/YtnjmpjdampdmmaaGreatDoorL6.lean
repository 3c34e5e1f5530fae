/- Polynomials: the law PolyMuls, walked. -/
import Derived.Test.YtnjmpjdampdmmaaGreatDoorC29
set_option linter.unusedVariables false
set_option linter.unusedSimpArgs false
namespace Go.Proofs.YtnjmpjdampdmmaaGreatDoor
open Go.RowKit

/-! ### Few terms -/
def eSum (l : List Tm) : Nat := (l.map fun t => t.e.length).sum
theorem fewT_sum {most : Int} : ∀ (l : List Tm) (n : Int), fewT most n l ≤ most → fewT most n l = n + eSum l
  | [], n, _ => by simp [fewT, eSum]
  | t :: l, n, h => by
    by_cases h1 : n ≤ most
    · rw [fewT, if_pos h1] at h ⊢
      rw [fewT_sum l _ h]
      unfold eSum
      simp only [List.map_cons, List.sum_cons, Int.natCast_add]
      omega
    · rw [fewT_over h1] at h
      exact absurd h h1
theorem eSum_all {n : Nat} : ∀ {l : List Tm}, (∀ t ∈ l, t.e.length = n) → eSum l = l.length * n
  | [], _ => by simp [eSum]
  | t :: l, h => by
    have ih := eSum_all (l := l) (fun x hx => h x (by simp [hx]))
    unfold eSum at ih ⊢
    rw [List.map_cons, List.sum_cons, ih, h t (by simp), List.length_cons, Nat.add_mul]
    omega
theorem few_two {most : Int} {p r : List Tm} (h : fewB most [p, r] = true) : (p.length + eSum p + r.length + eSum r : Int) ≤ most := by
  have h1 := of_decide_eq_true h
  simp only [fewL] at h1
  have h2 := fewT_sum _ _ h1
  have h3 : fewT most (0 + (p.length : Int)) p ≤ most := by omega
  have h4 := fewT_sum _ _ h3
  omega
theorem canon_zero {q : Int} : ∀ {p : List Tm}, Canon q 0 p → p.length ≤ 1
  | [], _ => by simp
  | [t], _ => by simp
  | t :: u :: p, h => by
    have h1 := (List.pairwise_cons.1 h.rise).1 u (by simp)
    have ht : t.e = [] := List.eq_nil_of_length_eq_zero (h.len t (by simp))
    have hu : u.e = [] := List.eq_nil_of_length_eq_zero (h.len u (by simp))
    rw [ht, hu] at h1
    exact absurd h1 (ltL_irrefl _)
theorem few_prod {q : Int} {n : Nat} {p r : List Tm} (h : fewB 400 [p, r] = true) (hp : Canon q n p) (hr : Canon q n r) : p.length * r.length ≤ 20000 := by
  have h1 := few_two h
  rw [eSum_all hp.len, eSum_all hr.len] at h1
  rcases Nat.eq_zero_or_pos n with h0 | h0
  · subst h0
    have a := canon_zero hp
    have b := canon_zero hr
    exact Nat.le_trans (Nat.mul_le_mul a b) (by decide)
  · have a : p.length ≤ p.length * n := Nat.le_mul_of_pos_right _ h0
    have b : r.length ≤ r.length * n := Nat.le_mul_of_pos_right _ h0
    generalize p.length * n = x at *
    generalize r.length * n = y at *
    rcases Nat.lt_or_ge 100 p.length with h2 | h2
    · exact Nat.le_trans (Nat.mul_le_mul (show p.length ≤ 200 by omega) (show r.length ≤ 100 by omega)) (by decide)
    · exact Nat.le_trans (Nat.mul_le_mul h2 (show r.length ≤ 200 by omega)) (by decide)

/-! ### What fits -/
theorem addit_ia {n v : Nat} (h : v < n) : Addit n (fun e => ia e v) := fun a b ha hb => ia_addE (by omega) (by omega)
section
variable {q : Int} {add mul : Int → Int → Int} {neg : Int → Int} {n : Nat}
theorem prd_len {p r : List Tm} : (prd add mul p r).length ≤ p.length * r.length := by
  have := totalT_len add (prodL mul p r).length (prodL mul p r)
  rw [sumLen_prodL] at this
  exact this
theorem fits_yes (F : FldOk q add mul neg) {p r : List Tm} (hp : Canon q n p) (hr : Canon q n r) (hl : p.length * r.length ≤ 20000) (h : noOv p r = true) : fitsB (prd add mul p r) = true := by
  unfold fitsB
  rw [Bool.and_eq_true, List.all_eq_true]
  refine ⟨fun z hz => ?_, decide_eq_true (Nat.le_trans prd_len hl)⟩
  obtain ⟨t, ht, u, hu, e⟩ := prd_mem F hp hr hz
  rw [e]
  exact noOv_iff.1 h t ht u hu
theorem eFit_over {e : List Int} (h : eFit e = false) : ∃ v, v < e.length ∧ 65535 < ia e v := by
  unfold eFit at h
  rw [List.all_eq_false] at h
  obtain ⟨x, hx, h⟩ := h
  obtain ⟨v, hv, rfl⟩ := List.getElem_of_mem hx
  refine ⟨v, hv, ?_⟩
  unfold ia
  rw [List.getD_eq_getElem?_getD, List.getElem?_eq_getElem hv, Option.getD_some]
  simpa using h
theorem fits_no (F : FldOk q add mul neg) {p r : List Tm} (hp : Canon q n p) (hr : Canon q n r) (h : noOv p r = false) : fitsB (prd add mul p r) = false := by
  unfold noOv at h
  rw [List.all_eq_false] at h
  obtain ⟨t, ht, h⟩ := h
  have h' : (r.all fun u => eFit (addE t.e u.e)) = false := by simpa using h
  rw [List.all_eq_false] at h'
  obtain ⟨u, hu, h2⟩ := h'
  have h3 : eFit (addE t.e u.e) = false := by simpa using h2
  obtain ⟨v, hv, hov⟩ := eFit_over h3
  have lt := hp.len t ht
  have lu := hr.len u hu
  rw [addE_len lt lu] at hv
  rw [ia_addE (by omega) (by omega)] at hov
  obtain ⟨a, ha, b, hb, h4, h5, z, hz, e⟩ := lead F (addit_ia hv) hp hr (List.ne_nil_of_mem ht) (List.ne_nil_of_mem hu)
  have h6 := h4 t ht
  have h7 := h5 u hu
  have h8 : eFit z.e = false := by
    rw [e]
    exact eFit_not (hp.len a ha) (hr.len b hb) hv (by omega)
  unfold fitsB
  rw [show ((prd add mul p r).all fun t => eFit t.e) = false from by
    rw [List.all_eq_false]
    exact ⟨z, hz, by simp [h8]⟩]
  rfl
end
theorem rpp_two {w : World} {A B : Option Addr} {c d : Nat} {p r : List Tm} (hP : RP w A p) (hR : RP w B r) (hl : p.length ≤ 140737488355328) (hl2 : r.length ≤ 140737488355328) : RPP (w.alloc (.cells #[.slice A p.length c, .slice B r.length d] 25)) (some ⟨w.heap.size, 0, none⟩) [p, r] := fun j hj => by
  have o := Own.new w 25 [.slice A p.length c, .slice B r.length d]
  have k := kept_alloc (kept_refl w) (.cells #[.slice A p.length c, .slice B r.length d] 25)
  match j, hj with
  | 0, _ => exact ⟨w.heap.size, 0, A, c, rfl, o.cell (j := 0) rfl, hP.kept k, hl⟩
  | 1, _ => exact ⟨w.heap.size, 0, B, d, rfl, o.cell (j := 1) rfl, hR.kept k, hl2⟩
end Go.Proofs.YtnjmpjdampdmmaaGreatDoor
