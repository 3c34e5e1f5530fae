/- Polynomials: the reference's Substitute, walked. -/
import Derived.Test.YtnjmpjdampdmmaaGreatDoorE1
/- Polynomials: what the reference's Substitute reckons; plain. -/
set_option linter.unusedVariables false
set_option linter.unusedSimpArgs false
set_option linter.unusedSectionVars false
namespace Go.Proofs.YtnjmpjdampdmmaaGreatDoor

theorem ad_mg2 {P M n : Int} {p r : List Tm} (hv : vld (ordF P M) n p = true) (hv2 : vld (ordF P M) n r = true) : mg (addF P M) p r = adT P M p r := by
  have F := fldF (vld_ok hv)
  have cp := vld_canon hv
  have cr := vld_canon hv2
  obtain ⟨h1, h2, _⟩ := mergeT_spec F.toAddOk (p.length + r.length) (Nat.le_refl _) cp cr
  obtain ⟨h3, h4⟩ := adG_spec F cp cr
  exact canon_ext F.toAddOk h1 h3 (fun e _ => (h2 e).trans (h4 e).symm)
def powR (P M : Int) (l : List Tm) : Nat → List Tm → List Tm
  | 0, t => t
  | j + 1, t => prd (addF P M) (mulF P M) (powR P M l j t) l
def tmR (P M : Int) (m : Nat) (ls : List (List Tm)) (t : Tm) : Nat → List Tm
  | 0 => cstT m t.c
  | k + 1 => powR P M (ls.getD k []) (ia t.e k).toNat (tmR P M m ls t k)
def sbR (P M : Int) (m : Nat) (ls : List (List Tm)) (p : List Tm) : Nat → List Tm
  | 0 => []
  | i + 1 => mg (addF P M) (sbR P M m ls p i) (tmR P M m ls (tmv p i) ls.length)
/-- Exponents up to a bound. -/
def ExB (B : Int) (p : List Tm) : Prop := ∀ t ∈ p, ∀ x ∈ t.e, 0 ≤ x ∧ x ≤ B
theorem ExB.mono {B C : Int} {p : List Tm} (h : ExB B p) (hb : B ≤ C) : ExB C p := fun t ht x hx => by
  have := h t ht x hx
  omega
theorem up_of {P M B : Int} {n : Nat} {p : List Tm} (h : Canon (ordF P M) n p) (e : ExB B p) (hb : B ≤ 1000000000000) : TmsUp P M n p := fun k hk => by
  have hm := tmv_mem hk
  have := h.c _ hm
  exact ⟨h.len _ hm, this.1, this.2, fun x hx => by have := e _ hm x hx; omega⟩
theorem exb_prd {P M B C : Int} {n : Nat} {p r : List Tm} (ok : okF P M = true) (hp : Canon (ordF P M) n p) (hr : Canon (ordF P M) n r) (ep : ExB B p) (er : ExB C r) : ExB (B + C) (prd (addF P M) (mulF P M) p r) := fun z hz x hx => by
  obtain ⟨t, ht, u, hu, e⟩ := prd_mem (fldF ok) hp hr hz
  rw [e] at hx
  obtain ⟨v, hv, rfl⟩ := List.getElem_of_mem hx
  have lt := hp.len t ht
  have lu := hr.len u hu
  have hv' : v < n := by rwa [addE_len lt lu] at hv
  have h1 := ia_addE (e := t.e) (f := u.e) (k := v) (by omega) (by omega)
  have h2 := ep t ht (ia t.e v) (ia_mem (by omega))
  have h3 := er u hu (ia u.e v) (ia_mem (by omega))
  have h4 : (addE t.e u.e)[v] = ia (addE t.e u.e) v := by
    unfold ia
    rw [List.getD_eq_getElem?_getD, List.getElem?_eq_getElem hv, Option.getD_some]
  rw [h4, h1]
  omega
theorem mg_all {P M B : Int} {n : Nat} {p r : List Tm} (ok : okF P M = true) (hp : Canon (ordF P M) n p) (hr : Canon (ordF P M) n r) (ep : ExB B p) (er : ExB B r) : Canon (ordF P M) n (mg (addF P M) p r) ∧ ExB B (mg (addF P M) p r) ∧ (mg (addF P M) p r).length ≤ p.length + r.length := by
  have F := fldF ok
  obtain ⟨h1, h2, h3⟩ := mergeT_spec F.toAddOk (p.length + r.length) (Nat.le_refl _) hp hr
  refine ⟨h1, fun z hz x hx => ?_, mergeT_len _ _ _ _⟩
  have hz' : z ∈ mergeT (addF P M) (p.length + r.length) p r := hz
  have h4 := h1.coef_ne F.toAddOk hz'
  have h5 := h1.c z hz'
  rw [h2] at h4
  by_cases h6 : coef (addF P M) p z.e = 0
  · have h7 : coef (addF P M) r z.e ≠ 0 := fun h7 => by
      rw [h6, h7, F.toAddOk.zero _ (Int.le_refl _) F.toAddOk.pos] at h4
      omega
    obtain ⟨t, ht, e⟩ := coef_mem h7
    exact er t ht x (by rw [e]; exact hx)
  · obtain ⟨t, ht, e⟩ := coef_mem h6
    exact ep t ht x (by rw [e]; exact hx)
/-! ### Bounds -/
theorem powR_all {P M B : Int} {n : Nat} {l t : List Tm} (ok : okF P M = true) (hl : vld (ordF P M) n l = true) (ht : Canon (ordF P M) n t) (et : ExB B t) : ∀ j, Canon (ordF P M) n (powR P M l j t) ∧ ExB (B + 65535 * j) (powR P M l j t) ∧ (powR P M l j t).length ≤ t.length * mx l ^ j
  | 0 => ⟨ht, et.mono (by omega), by rw [Nat.pow_zero, Nat.mul_one]; exact Nat.le_refl _⟩
  | j + 1 => by
    obtain ⟨h1, h2, h3⟩ := powR_all ok hl ht et j
    have cl : Canon (ordF P M) n l := by have := vld_canon hl; simpa using this
    have el : ExB 65535 l := vld_exps hl
    refine ⟨(prd_spec (fldF ok) h1 cl).1, (exb_prd ok h1 cl h2 el).mono (by omega), Nat.le_trans prd_len ?_⟩
    rw [Nat.pow_succ, ← Nat.mul_assoc]
    exact Nat.mul_le_mul h3 (by unfold mx; omega)
theorem cst_can {P M : Int} {m : Nat} {c : Int} (ok : okF P M = true) (hm : m ≤ 80) (hc : 0 ≤ c ∧ c < ordF P M) : Canon (ordF P M) m (cstT m c) ∧ ExB 0 (cstT m c) := by
  have hv := cst_vld ok hm hc
  refine ⟨by have := vld_canon hv; simpa using this, fun t ht x hx => ?_⟩
  unfold cstT at ht
  split at ht
  · simp at ht
  · rw [List.mem_singleton.1 ht] at hx
    rw [List.eq_of_mem_replicate hx]
    omega
/-- What the walk wants of a substitution whose size is bounded. -/
structure RfOk (P M : Int) (m : Nat) (ls : List (List Tm)) (p : List Tm) : Prop where
  e20 : ∀ i, i < p.length → ∀ k, k < ls.length → ia (tmv p i).e k ≤ 20
  tm : ∀ i, i < p.length → ∀ k, k ≤ ls.length → Canon (ordF P M) m (tmR P M m ls (tmv p i) k) ∧ ExB (1310700 * k) (tmR P M m ls (tmv p i) k) ∧ (tmR P M m ls (tmv p i) k).length ≤ nTo ls (tmv p i) k
  sb : ∀ i, i ≤ p.length → Canon (ordF P M) m (sbR P M m ls p i) ∧ ExB 104856000 (sbR P M m ls p i) ∧ (sbR P M m ls p i).length ≤ allTo ls p i
theorem tmR_all {P M : Int} {m : Nat} {ls : List (List Tm)} {t : Tm} (ok : okF P M = true) (hm : m ≤ 80) (hc : 0 ≤ t.c ∧ t.c < ordF P M) (hls : ∀ k, k < ls.length → vld (ordF P M) m (ls.getD k []) = true) (h20 : ∀ k, k < ls.length → ia t.e k ≤ 20) : ∀ k, k ≤ ls.length → Canon (ordF P M) m (tmR P M m ls t k) ∧ ExB (1310700 * k) (tmR P M m ls t k) ∧ (tmR P M m ls t k).length ≤ nTo ls t k
  | 0, _ => ⟨(cst_can ok hm hc).1, (cst_can ok hm hc).2.mono (by omega), cst_len _ _⟩
  | k + 1, h => by
    obtain ⟨h1, h2, h3⟩ := tmR_all ok hm hc hls h20 k (by omega)
    obtain ⟨h4, h5, h6⟩ := powR_all ok (hls k (by omega)) h1 h2 (ia t.e k).toNat
    have h7 := h20 k (by omega)
    refine ⟨h4, h5.mono (by omega), Nat.le_trans h6 ?_⟩
    show _ ≤ nTo ls t k * mx (ls.getD k []) ^ (ia t.e k).toNat
    exact Nat.mul_le_mul_right _ h3
theorem rf_ok {P M n : Int} {m : Nat} {ls : List (List Tm)} {p : List Tm} (S : SmOk ls p) (hv : vld (ordF P M) n p = true) (hm : m ≤ 80) (hls : ∀ k, k < ls.length → vld (ordF P M) m (ls.getD k []) = true) (hn : ls.length ≤ 80) : RfOk P M m ls p := by
  have ok := vld_ok hv
  have htm : ∀ i, i < p.length → ∀ k, k ≤ ls.length → Canon (ordF P M) m (tmR P M m ls (tmv p i) k) ∧ ExB (1310700 * k) (tmR P M m ls (tmv p i) k) ∧ (tmR P M m ls (tmv p i) k).length ≤ nTo ls (tmv p i) k := fun i hi k hk => by
    have := (vld_terms hv).2.2 i hi
    exact tmR_all ok hm ⟨by omega, this.2.2.1⟩ hls (S.e20 i hi) k hk
  refine ⟨S.e20, htm, fun i => ?_⟩
  induction i with
  | zero => exact fun _ => ⟨Canon.nil _ _, fun t ht => by change t ∈ ([] : List Tm) at ht; simp at ht, Nat.le_refl _⟩
  | succ i ih =>
    intro hi
    obtain ⟨h1, h2, h3⟩ := ih (by omega)
    obtain ⟨h4, h5, h6⟩ := htm i (by omega) ls.length (Nat.le_refl _)
    obtain ⟨h7, h8, h9⟩ := mg_all ok h1 h4 h2 (h5.mono (by omega))
    have hT := (S.term (i := i) (by omega)).1
    refine ⟨h7, h8, ?_⟩
    show (mg (addF P M) (sbR P M m ls p i) (tmR P M m ls (tmv p i) ls.length)).length ≤ allTo ls p i + min (nTo ls (tmv p i) ls.length) 10000
    omega
/-- Within a term. -/
theorem RfOk.inner {P M : Int} {m : Nat} {ls : List (List Tm)} {p : List Tm} (R : RfOk P M m ls p) (ok : okF P M = true) (S : SmOk ls p) (hls : ∀ k, k < ls.length → vld (ordF P M) m (ls.getD k []) = true) (hn : ls.length ≤ 80) {i k j : Nat} (hi : i < p.length) (hk : k < ls.length) (hj : j ≤ (ia (tmv p i).e k).toNat) :
    Canon (ordF P M) m (powR P M (ls.getD k []) j (tmR P M m ls (tmv p i) k)) ∧ ExB 1000000000000 (powR P M (ls.getD k []) j (tmR P M m ls (tmv p i) k)) ∧ (powR P M (ls.getD k []) j (tmR P M m ls (tmv p i) k)).length ≤ 3000 ∧ (j < (ia (tmv p i).e k).toNat → (powR P M (ls.getD k []) j (tmR P M m ls (tmv p i) k)).length * (ls.getD k []).length ≤ 3000) := by
  obtain ⟨h1, h2, h3⟩ := R.tm i hi k (by omega)
  obtain ⟨h4, h5, h6⟩ := powR_all ok (hls k hk) h1 h2 j
  have h20 := R.e20 i hi k hk
  have hT := (S.term hi).1
  have hk2 : nTo ls (tmv p i) (k + 1) ≤ nTo ls (tmv p i) ls.length := nTo_mono hk
  have hup : ∀ j, j ≤ (ia (tmv p i).e k).toNat → nTo ls (tmv p i) k * mx (ls.getD k []) ^ j ≤ 3000 := fun j hj => by
    have h7 : nTo ls (tmv p i) k * mx (ls.getD k []) ^ j ≤ nTo ls (tmv p i) (k + 1) := Nat.mul_le_mul_left _ (Nat.pow_le_pow_right (by unfold mx; omega) hj)
    omega
  have h8 : (tmR P M m ls (tmv p i) k).length * mx (ls.getD k []) ^ j ≤ nTo ls (tmv p i) k * mx (ls.getD k []) ^ j := Nat.mul_le_mul_right _ h3
  have h9 := hup j hj
  refine ⟨h4, h5.mono (by omega), by omega, fun hlt => ?_⟩
  have h10 := hup (j + 1) hlt
  rw [Nat.pow_succ, ← Nat.mul_assoc] at h10
  refine Nat.le_trans (Nat.mul_le_mul (Nat.le_trans h6 h8) (show (ls.getD k []).length ≤ mx (ls.getD k []) by unfold mx; omega)) h10
/-! ### The same as the program's, or over -/
def Agr (s : Option (List Tm)) (r : List Tm) (ov : Bool) : Prop := (∀ t, s = some t → r = t) ∧ (s = none → ov = true)
theorem Agr.step {P M : Int} {m : Nat} {l r : List Tm} {s : Option (List Tm)} {ov : Bool} (h : Agr s r ov) (hs : Vl P M m s) (hl : vld (ordF P M) m l = true) : Agr (stepS P M l s) (prd (addF P M) (mulF P M) r l) (ov || !fitsB (prd (addF P M) (mulF P M) r l)) := by
  cases s with
  | none =>
    refine ⟨fun t ht => (by cases ht), fun _ => ?_⟩
    rw [h.2 rfl]
    rfl
  | some u =>
    have hu := hs u rfl
    obtain rfl := h.1 u rfl
    have e : stepS P M l (some r) = if noOv r l = true then some (prT P M r l) else none := rfl
    rw [e]
    by_cases hno : noOv r l = true
    · rw [if_pos hno]
      refine ⟨fun t ht => ?_, fun ht => by cases ht⟩
      rw [← Option.some.inj ht, prT_prd hu hl]
    · rw [if_neg hno]
      refine ⟨fun t ht => (by cases ht), fun _ => ?_⟩
      rw [fits_no (fldF (vld_ok hl)) (vld_canon hu) (vld_canon hl) (by simpa using hno), Bool.not_false, Bool.or_true]
theorem Agr.more {s : Option (List Tm)} {r : List Tm} {ov b : Bool} (h : Agr s r ov) : Agr s r (ov || b) := ⟨h.1, fun hn => by rw [h.2 hn]; rfl⟩
theorem Agr.add {P M : Int} {m : Nat} {s u : Option (List Tm)} {r t : List Tm} {o1 ov : Bool} (h : Agr s r o1) (ho : o1 = true → ov = true) (h2 : Agr u t ov) (hs : Vl P M m s) (hu : Vl P M m u) : Agr (addS P M s u) (mg (addF P M) r t) ov := by
  cases s with
  | none => exact ⟨fun t ht => (by cases ht), fun _ => ho (h.2 rfl)⟩
  | some a =>
    cases u with
    | none => exact ⟨fun t ht => (by cases ht), fun _ => h2.2 rfl⟩
    | some b =>
      obtain rfl := h.1 a rfl
      obtain rfl := h2.1 b rfl
      refine ⟨fun x hx => ?_, fun hx => (by cases hx)⟩
      obtain rfl := Option.some.inj hx
      exact ad_mg2 (hs r rfl) (hu t rfl)
end Go.Proofs.YtnjmpjdampdmmaaGreatDoor


set_option linter.unusedVariables false
set_option linter.unusedSimpArgs false
namespace Go.Proofs.YtnjmpjdampdmmaaGreatDoor
open Go.RowKit Go.Shelf

theorem own_at {w : World} {g j : Nat} {e : TypeId} {cs : List Value} {v : Value} (h : Own w g e cs) (hc : w.cell? ⟨g, j, none⟩ = some v) : cs[j]? = some v := by
  unfold Own at h
  simpa [World.cell?, h] using hc
/-- A block without numbers. -/
def NoInt (cs : List Value) : Prop := ∀ c, Value.int .i64 c ∉ cs
theorem rd_far {w : World} {A : Option Addr} {l : List Int} {g : Nat} {e : TypeId} {cs : List Value} (h : Rd w A (ints l)) (o : Own w g e cs) (n : NoInt cs) (j : Nat) (v : Value) : Rd (w.setCell ⟨g, j, none⟩ v) A (ints l) :=
  ⟨fun hn => by
    obtain ⟨b, off, e, hc⟩ := h.at_ hn
    refine ⟨b, off, e, fun i x hi => ?_⟩
    have h1 := hc i x hi
    have ne : g ≠ b := by
      rintro rfl
      have h2 := own_at o h1
      have h3 : x ∈ ints l := List.mem_of_getElem? hi
      obtain ⟨c, _, rfl⟩ := List.mem_map.1 h3
      exact n c (List.mem_of_getElem? h2)
    rw [World.cell?_setCell_far _ _ _ _ ne]
    exact h1⟩
theorem rp_far {w : World} {A : Option Addr} {p : List Tm} {g : Nat} {e : TypeId} {cs : List Value} (h : RP w A p) (o : Own w g e cs) (n : NoInt cs) (i : Nat) (v : Value) : RP (w.setCell ⟨g, i, none⟩ v) A p := fun j hj => by
  obtain ⟨b, off, E, c, e, h0, h1, h2, h3⟩ := h j hj
  have ne : g ≠ b := by
    rintro rfl
    exact n _ (List.mem_of_getElem? (own_at o h0))
  refine ⟨b, off, E, c, e, ?_, ?_, rd_far h2 o n i v, h3⟩
  · rw [World.cell?_setCell_far _ _ _ _ ne]; exact h0
  · rw [World.cell?_setCell_far _ _ _ _ ne]; exact h1
theorem noInt_sub (A : Option Addr) (n c : Nat) (b1 b2 : Bool) : NoInt [.slice A n c, .bool b1, .bool b2] := fun x h => by simp at h
/-- The memory of the reference's Substitute. -/
structure MemS (w : World) (g : Nat) (K : List Value) (A0 : Option Addr) (a : List Tm) (c0 : Nat) (ov : Bool) (A1 : Option Addr) (t : List Tm) (wx : World) : Prop where
  o4 : Own wx g 37 K
  o8 : Own wx (g + 1) 49 [.slice none 0 0, .bool false, .bool false]
  o9 : Own wx (g + 2) 49 [.slice A0 a.length c0, .bool ov, .bool false]
  r0 : RP wx A0 a
  r1 : RP wx A1 t
  hg : w.heap.size ≤ g
  k : Kept w wx
section
variable {w wx wy : World} {g : Nat} {K : List Value} {A0 A1 A2 : Option Addr} {a t u : List Tm} {c0 : Nat} {ov : Bool}
theorem MemS.step (h : MemS w g K A0 a c0 ov A1 t wx) (k : Kept wx wy) : MemS w g K A0 a c0 ov A1 t wy := ⟨h.o4.kept k, h.o8.kept k, h.o9.kept k, h.r0.kept k, h.r1.kept k, h.hg, kept_trans h.k k⟩
theorem MemS.new (h : MemS w g K A0 a c0 ov A1 t wx) (r : RP wx A2 u) : MemS w g K A0 a c0 ov A2 u wx := ⟨h.o4, h.o8, h.o9, h.r0, r, h.hg, h.k⟩
theorem MemS.many (h : MemS w g K A0 a c0 ov A1 t wx) : MemS w g K A0 a c0 ov A1 t (wx.setCell ⟨g + 2, 2, none⟩ (.bool false)) :=
  ⟨h.o4.other (by dsimp only; omega) _, h.o8.other (by dsimp only; omega) _, h.o9.set 2 (.bool false), rp_far h.r0 h.o9 (noInt_sub _ _ _ _ _) _ _, rp_far h.r1 h.o9 (noInt_sub _ _ _ _ _) _ _, h.hg, kept_set h.k (by have := h.hg; omega) _⟩
theorem MemS.over (h : MemS w g K A0 a c0 ov A1 t wx) (b : Bool) : MemS w g K A0 a c0 b A1 t (wx.setCell ⟨g + 2, 1, none⟩ (.bool b)) :=
  ⟨h.o4.other (by dsimp only; omega) _, h.o8.other (by dsimp only; omega) _, h.o9.set 1 (.bool b), rp_far h.r0 h.o9 (noInt_sub _ _ _ _ _) _ _, rp_far h.r1 h.o9 (noInt_sub _ _ _ _ _) _ _, h.hg, kept_set h.k (by have := h.hg; omega) _⟩
theorem MemS.sum (h : MemS w g K A0 a c0 ov A1 t wx) (r : RP wx A2 u) (c2 : Nat) : MemS w g K A2 u c2 ov A1 t (wx.setCell ⟨g + 2, 0, none⟩ (.slice A2 u.length c2)) :=
  ⟨h.o4.other (by dsimp only; omega) _, h.o8.other (by dsimp only; omega) _, h.o9.set 0 _, rp_far r h.o9 (noInt_sub _ _ _ _ _) _ _, rp_far h.r1 h.o9 (noInt_sub _ _ _ _ _) _ _, h.hg, kept_set h.k (by have := h.hg; omega) _⟩
end
theorem not_million {N : Nat} (h : N ≤ 3000) : decide ((1000000 : Int) < (N : Int)) = false ∧ decide (1000000 < N) = false := ⟨decide_eq_false (by omega), decide_eq_false (by omega)⟩
set_option maxRecDepth 100000 in
set_option maxHeartbeats 1000000 in
theorem rconst42_any (m : Nat) (c : Int) (w : World) (hm : m ≤ 80) : Calls Tryz.prog 42 #[.int .i64 m, .int .i64 c] w (RowP (cstT m c) w) := by
  by_cases h0 : c = 0
  · have d1 : (c == 0) = true := by simpa using h0
    rw [show cstT m c = [] by simp [cstT, h0]]
    clear h0
    go_enter Tryz.func42, Tryz.ntmps42
    go_wp2_with fail
    go_ret
    exact ⟨none, 0, rfl, fun j hj => by simp at hj, kept_refl _⟩
  · have d1 : (c == 0) = false := by simpa using h0
    rw [show cstT m c = [⟨c, List.replicate m 0⟩] by simp [cstT, h0]]
    have hmk := make_ints m (by omega)
    have oe := Own.new w 3 (ints (List.replicate m 0))
    clear h0
    go_enter Tryz.func42, Tryz.ntmps42
    go_wp2_with fail
    go_ret
    have K1 : Kept w (w.alloc (.cells (ints (List.replicate m 0)).toArray 3)) := kept_alloc (kept_refl _) _
    have o2 := Own.new (w.alloc (.cells (ints (List.replicate m 0)).toArray 3)) 64 [.int .i64 c, .slice (some ⟨w.heap.size, 0, none⟩) m m]
    rw [show (w.alloc (.cells (ints (List.replicate m 0)).toArray 3)).heap.size = w.heap.size + 1 by simp] at o2
    refine ⟨_, 1, rfl, rp_one1 (n := m) (by simp) o2 ((oe.rd).kept (kept_alloc (kept_refl _) _)) (by simp; omega), kept_alloc K1 _⟩
theorem radd15_can (P M : Int) (n : Nat) (p r : List Tm) (A B : Option Addr) (ca cb : Nat) (w : World) (ok : okF P M = true) (hn : n ≤ 1000) (hP : RP w A p) (hR : RP w B r) (cp : Canon (ordF P M) n p) (cr : Canon (ordF P M) n r) (hp : p.length ≤ 20000) (hr : r.length ≤ 20000) :
    Calls Tryz.prog 15 #[kV P M, .slice A p.length ca, .slice B r.length cb] w (RowP (mg (addF P M) p r) w) := by
  have F := fldF ok
  obtain ⟨h1, _, _⟩ := mergeT_spec F.toAddOk (p.length + r.length) (Nat.le_refl _) cp cr
  refine (radd81_any P M p r A B ca cb w ok hP hR hp hr (fun t ht => ?_) (fun t ht => ?_) (fun t ht u hu => ?_)).mono fun e w' ⟨v, S, he, hS, hrow, hx, k⟩ => ?_
  · have := cp.c t ht
    exact ⟨⟨by omega, this.2⟩, by rw [cp.len t ht]; exact hn⟩
  · have := cr.c t ht
    exact ⟨⟨by omega, this.2⟩, by rw [cr.len t ht]; exact hn⟩
  · rw [cp.len t ht, cr.len u hu]
  · obtain ⟨A', c', rfl⟩ := row_val hrow
    refine ⟨A', c', by rw [he, ← hS, List.length_map], ?_, k⟩
    rw [← hS]
    refine rp_of_row hrow (fun x hm => (hx x hm).kept k) (fun z hz => ?_)
    have h5 := h1.len z.t (by
      show z.t ∈ mg (addF P M) p r
      rw [← hS]
      exact List.mem_map_of_mem hz)
    omega
def RSub (P M : Int) (m : Nat) (ls : List (List Tm)) (p : List Tm) (w : World) (e : Ending) (w' : World) : Prop := ∃ (A' : Option Addr) (c' : Nat) (ov : Bool), e = .returned (.agg #[.slice A' (sbR P M m ls p p.length).length c', .bool ov, .bool false]) ∧ RP w' A' (sbR P M m ls p p.length) ∧ Hid (Agr (sbTo P M m ls p p.length) (sbR P M m ls p p.length) ov) ∧ Kept w w'
set_option maxRecDepth 100000 in
set_option maxHeartbeats 1000000 in
theorem rsubst18_main (P M : Int) (m : Nat) (p : List Tm) (ls : List (List Tm)) (A B : Option Addr) (c d : Nat) (w : World) (hP : RP w A p) (hL : RPP w B ls) (hv : vld (ordF P M) (ls.length : Int) p = true) (hm : m ≤ 80) (hls : ∀ k, k < ls.length → vld (ordF P M) m (ls.getD k []) = true) (S : SmOk ls p) :
    Calls Tryz.prog 18 #[kV P M, .slice A p.length c, .int .i64 m, .slice B ls.length d] w (RSub P M m ls p w) := by
  obtain ⟨hnr, hpl, tl⟩ := vld_terms hv
  have ok := vld_ok hv
  have hl80 : ls.length ≤ 80 := by omega
  have SO := sub_ok S hv hm hls
  have RF := rf_ok S hv hm hls hl80
  have TV := Lib.hid (show ∀ i, i < p.length → ∀ k, k ≤ ls.length → Vl P M m (tmTo P M m ls (tmv p i) k) from fun i hi => tm_vl SO hv hm hls hi)
  have SV := Lib.hid (show ∀ i, i ≤ p.length → Vl P M m (sbTo P M m ls p i) from fun i hi => sb_vl SO hv hm hls i hi)
  have HIN := Lib.hid (show ∀ i, i < p.length → ∀ k, k < ls.length → ∀ j, j ≤ (ia (tmv p i).e k).toNat → Vl P M m (powS P M (ls.getD k []) j (tmTo P M m ls (tmv p i) k)) from fun i hi k hk j hj => pow_vl (tm_vl SO hv hm hls hi k (by omega)) (hls k hk) (SO.mulB i hi k hk) j hj)
  have LV := Lib.hid hls
  have TL := Lib.hid (show ∀ k, k < p.length → (tmv p k).e.length = ls.length ∧ ∀ x ∈ (tmv p k).e, 0 ≤ x ∧ x ≤ 65535 from fun k hk => by have := tl k hk; exact ⟨by omega, this.2.2.2⟩)
  have C42 := Lib.hid fun w' x => rconst42_any m x w' hm
  have C43 := Lib.hid fun i (hi : i < p.length) k (hk : k < ls.length) j (hj : j < (ia (tmv p i).e k).toNat) w' (A' B' : Option Addr) (c d : Nat) (h1 : RP w' A' (powR P M (ls.getD k []) j (tmR P M m ls (tmv p i) k))) (h2 : RP w' B' (ls.getD k [])) => by
    obtain ⟨g1, g2, g3, g4⟩ := RF.inner ok S hls hl80 hi hk (j := j) (by omega)
    have hl := hls k hk
    have hlv : Canon (ordF P M) m (ls.getD k []) := by have := vld_canon hl; simpa using this
    exact rmul30_up P M m _ _ A' B' c d w' ok h1 h2 hm (up_of g1 g2 (by omega)) (up_of hlv (vld_exps hl) (by omega)) (by omega) (vld_terms hl).2.1 (by have := g4 hj; omega) g1 hlv
  have C15 := Lib.hid fun i (hi : i < p.length) w' (A' B' : Option Addr) (c d : Nat) (h1 : RP w' A' (sbR P M m ls p i)) (h2 : RP w' B' (tmR P M m ls (tmv p i) ls.length)) => by
    obtain ⟨g1, g2, g3⟩ := RF.sb i (by omega)
    obtain ⟨g4, g5, g6⟩ := RF.tm i hi ls.length (Nat.le_refl _)
    have g7 := S.term hi
    exact radd15_can P M m _ _ A' B' c d w' ok (by omega) h1 h2 g1 g4 (by omega) (by omega)
  have C19 := Lib.hid fun w' p A c h1 h2 => fits31_any p A c w' h1 h2
  have LEN := Lib.hid (show ∀ i, i < p.length → ∀ k, k < ls.length → ∀ j, j ≤ (ia (tmv p i).e k).toNat → (powR P M (ls.getD k []) j (tmR P M m ls (tmv p i) k)).length ≤ 3000 ∧ (j < (ia (tmv p i).e k).toNat → (powR P M (ls.getD k []) j (tmR P M m ls (tmv p i) k)).length * (ls.getD k []).length ≤ 3000) from fun i hi k hk j hj => by
    obtain ⟨g1, g2, g3, g4⟩ := RF.inner ok S hls hl80 hi hk (j := j) hj
    exact ⟨g3, g4⟩)
  have LSB := Lib.hid (show ∀ i, i ≤ p.length → (sbR P M m ls p i).length ≤ 6000 from fun i hi => by
    have := (RF.sb i hi).2.2
    have h2 : allTo ls p i ≤ allTo ls p p.length := by
      rcases Nat.lt_or_ge i p.length with h | h
      · have := all_ge (ls := ls) (p := p) h; omega
      · rw [show i = p.length by omega]; exact Nat.le_refl _
    have := S.le
    omega)
  have HP := Lib.hid hP
  have HL := Lib.hid hL
  unfold kV RowP TotPost at *
  have o4 := Own.new w 37 [.int .i64 P, .int .i64 M, .int .i64 (ordF P M), .int .i64 (kitM M)]
  have HQ := Lib.hid (rfl : ordF P M = ordF P M)
  obtain ⟨W0, hW0⟩ : ∃ W0, W0 = ((w.alloc (.cells #[.int .i64 P, .int .i64 M, .int .i64 (ordF P M), .int .i64 (kitM M)] 37)).alloc (.cells #[.slice none 0 0, .bool false, .bool false] 49)).alloc (.cells #[.slice none 0 0, .bool false, .bool false] 49) := ⟨_, rfl⟩
  have MM0 : MemS w w.heap.size [.int .i64 P, .int .i64 M, .int .i64 (ordF P M), .int .i64 (kitM M)] none [] 0 false none [] W0 := by
    rw [hW0]
    have o8 := Own.new (w.alloc (.cells #[.int .i64 P, .int .i64 M, .int .i64 (ordF P M), .int .i64 (kitM M)] 37)) 49 [.slice none 0 0, .bool false, .bool false]
    have o9 := Own.new ((w.alloc (.cells #[.int .i64 P, .int .i64 M, .int .i64 (ordF P M), .int .i64 (kitM M)] 37)).alloc (.cells #[.slice none 0 0, .bool false, .bool false] 49)) 49 [.slice none 0 0, .bool false, .bool false]
    rw [show (w.alloc (.cells #[.int .i64 P, .int .i64 M, .int .i64 (ordF P M), .int .i64 (kitM M)] 37)).heap.size = w.heap.size + 1 by simp] at o8
    rw [show ((w.alloc (.cells #[.int .i64 P, .int .i64 M, .int .i64 (ordF P M), .int .i64 (kitM M)] 37)).alloc (.cells #[.slice none 0 0, .bool false, .bool false] 49)).heap.size = w.heap.size + 2 by simp] at o9
    exact ⟨(o4.alloc _).alloc _, o8.alloc _, o9, RP.nil _ _, RP.nil _ _, Nat.le_refl _, kept_alloc (kept_alloc (kept_alloc (kept_refl w) _) _) _⟩
  obtain ⟨q, hq⟩ : ∃ q, q = ordF P M := ⟨_, rfl⟩
  obtain ⟨km, hkm⟩ : ∃ km, km = kitM M := ⟨_, rfl⟩
  have HW0 := Lib.hid hW0
  clear hP hL hv hls S SO RF tl hnr ok hW0 o4
  go_enter Tryz.func18, Tryz.ntmps18
  go_upto_region 2 with fail
  rw [← HW0.out]
  have KST : Kept W0 W0 := kept_refl W0
  obtain ⟨g, hg⟩ : ∃ g, g = w.heap.size := ⟨_, rfl⟩
  have MMS := Lib.hid MM0
  rw [← hg] at MMS MM0 ⊢
  obtain ⟨KK, hKK⟩ : ∃ KK, KK = [Value.int .i64 P, .int .i64 M, .int .i64 (ordF P M), .int .i64 (kitM M)] := ⟨_, rfl⟩
  have HKK := Lib.hid hKK
  rw [← hKK] at MM0
  clear hg hKK MMS HW0
  go_wp2_with fail
  go_loopg [10, 11, 12, 13] p.length (fun G s10 s11 s12 s13 wr => ∃ (i : Nat) (A0 : Option Addr) (c0 : Nat) (a : List Tm) (ov : Bool) (v11 v12 v13 : Value), i ≤ p.length ∧ G = p.length - i ∧ s10 = .int .i64 i ∧ s11 = v11 ∧ s12 = v12 ∧ s13 = v13 ∧ MemS w g KK A0 a c0 ov none [] wr ∧ Hid (a = sbR P M m ls p i) ∧ Hid (Agr (sbTo P M m ls p i) a ov))
  case atStart => exact ⟨0, none, 0, [], false, _, _, _, by omega, rfl, rfl, rfl, rfl, rfl, MM0, Lib.hid rfl, Lib.hid ⟨fun t h => Option.some.inj h, fun h => (by cases h)⟩⟩
  case round =>
    clear MM0
    obtain ⟨i, A0, c0, a, ov, v11, v12, v13, hi, rfl, rfl, rfl, rfl, rfl, MM, HA, HG⟩ := hrel
    by_cases hit : i < p.length
    · have b1 : decide ((i : Int) < (p.length : Int)) = true := decide_eq_true (by omega)
      have b2 : decide (i < p.length) = true := decide_eq_true hit
      obtain ⟨ba, off, E, ce, rfl, h0, h1, hE, hlE⟩ := HP.out i hit
      have H1 := Lib.hid h1
      replace h0 := kept_cell MM.k h0
      obtain ⟨x, hx⟩ : ∃ x, x = (tmv p i).c := ⟨_, rfl⟩
      obtain ⟨el, hel⟩ : ∃ el, el = (tmv p i).e := ⟨_, rfl⟩
      have HT := Lib.hid (show tmv p i = ⟨x, el⟩ by rw [hx, hel])
      have TK := Lib.hid (TL.out i hit)
      rw [← hx] at h0
      rw [← hel] at TK H1 hE hlE
      have HE := Lib.hid hE
      have HI := Lib.hid hit
      have HEL := Lib.hid hel
      have HX := Lib.hid hx
      have elen : el.length = ls.length := TK.out.1
      have HELN := Lib.hid elen
      rw [elen] at H1
      clear hx hel h1 hE hlE elen
      go_wp2_with (go_at_call 42; ((with_reducible refine (C42.out _ x).mono ?_); rintro e w1 ⟨A1, c1, rfl, hr1, k1⟩))
      have MM1 := (MM.step k1).new hr1
      have HG0 := Lib.hid (show Agr (tmTo P M m ls (tmv p i) 0) (cstT m x) ov from ⟨fun t h => by rw [HT.out] at h; exact (Option.some.inj h), fun h => by cases h⟩)
      clear MM h0 hr1
      go_loopg [11, 12, 13] ls.length (fun G s11 s12 s13 wx => ∃ (k : Nat) (A1 : Option Addr) (c1 : Nat) (t : List Tm) (ov : Bool) (v13 : Value), k ≤ ls.length ∧ G = ls.length - k ∧ s11 = .slice A1 t.length c1 ∧ s12 = .int .i64 k ∧ s13 = v13 ∧ MemS w g KK A0 a c0 ov A1 t wx ∧ Hid (t = tmR P M m ls (tmv p i) k) ∧ Hid (Agr (tmTo P M m ls (tmv p i) k) t ov) ∧ Hid (Agr (sbTo P M m ls p i) a ov))
      case atStart => exact ⟨0, A1, c1, cstT m x, ov, _, by omega, rfl, rfl, rfl, rfl, MM1, Lib.hid (by rw [HT.out]; rfl), HG0, HG⟩
      case round =>
        clear MM1 HG HG0
        obtain ⟨k, A1, c1, t, ov, v13, hk, rfl, rfl, rfl, rfl, MM, HTR, HG1, HG⟩ := hrel
        by_cases hkt : k < ls.length
        · have b3 : decide ((k : Int) < (ls.length : Int)) = true := decide_eq_true (by omega)
          have b4 : decide (k < ls.length) = true := decide_eq_true hkt
          have hke : k < el.length := by have := HELN.out; omega
          obtain ⟨b1', o1, rfl, hd1⟩ := HE.out.int hke
          have x0 := hd1 k hke
          have bx := TK.out.2 (ia el k) (ia_mem hke)
          obtain ⟨ev, hev⟩ : ∃ ev : Nat, ia el k = (ev : Int) := ⟨(ia el k).toNat, by omega⟩
          rw [hev] at x0 bx
          have X0 := Lib.hid x0
          obtain ⟨bl, ol, El, cl, rfl, hcl, hRl, hlen⟩ := HL.out k hkt
          obtain ⟨l, hl⟩ : ∃ l, l = ls.getD k [] := ⟨_, rfl⟩
          have HLX := Lib.hid hl
          have HEV := Lib.hid (show (ia (tmv p i).e k).toNat = ev by rw [← HEL.out, hev]; rfl)
          rw [← hl] at hcl hRl hlen
          have HCL := Lib.hid hcl
          have HRL := Lib.hid hRl
          have HKT := Lib.hid hkt
          clear hev hl hd1 hcl hRl x0
          go_wp2_with fail
          go_loopg [11, 13] ev (fun G s11 s13 wy => ∃ (j : Nat) (A1 : Option Addr) (c1 : Nat) (t : List Tm) (ov : Bool), j ≤ ev ∧ G = ev - j ∧ s11 = .slice A1 t.length c1 ∧ s13 = .int .i64 j ∧ MemS w g KK A0 a c0 ov A1 t wy ∧ Hid (t = powR P M l j (tmR P M m ls (tmv p i) k)) ∧ Hid (Agr (powS P M l j (tmTo P M m ls (tmv p i) k)) t ov) ∧ Hid (Agr (sbTo P M m ls p i) a ov))
          case atStart => exact ⟨0, A1, c1, t, ov, by omega, rfl, rfl, rfl, MM, Lib.hid HTR.out, Lib.hid HG1.out, HG⟩
          case round =>
            clear MM HTR HG1 HG
            obtain ⟨j, A1, c1, t, ov, hj, rfl, rfl, rfl, MM, HTR, HG1, HG⟩ := hrel
            have y0 := kept_cell MM.k H1.out
            have y1 := kept_cell MM.k X0.out
            by_cases hjt : j < ev
            · have b5 : decide ((j : Int) < (ev : Int)) = true := decide_eq_true (by omega)
              have b6 : decide (j < ev) = true := decide_eq_true hjt
              have y2 := kept_cell MM.k HCL.out
              have z2 := MM.o9.cell (j := 2) rfl
              have z3 := MM.o9.frozen 2
              obtain ⟨hl1, hl2⟩ := LEN.out i HI.out k HKT.out j (by rw [HEV.out]; omega)
              have hl3 := hl2 (by rw [HEV.out]; exact hjt)
              rw [← HLX.out, ← HTR.out] at hl1 hl3
              obtain ⟨N, hN⟩ : ∃ N, N = t.length * l.length := ⟨_, rfl⟩
              rw [← hN] at hl3
              have e1 : IntKind.i64.wrap ((t.length : Int) * (l.length : Int)) = (N : Int) := by rw [← Int.natCast_mul, ← hN]; exact IntWalk.i64_in _ (by omega)
              have e2 : wrap64 ((t.length : Int) * (l.length : Int)) = (N : Int) := by rw [← Int.natCast_mul, ← hN]; exact IntWalk.wrap64_in _ (by omega)
              obtain ⟨d1, d2⟩ := not_million hl3
              have HJT := Lib.hid hjt
              clear hN hl1 hl2
              go_upto_region 13 with fail
              have MM1 := MM.many
              obtain ⟨w2, hw2⟩ : ∃ w2, w2 = wr.setCell ⟨g + 2, 2, none⟩ (.bool false) := ⟨_, rfl⟩
              rw [← hw2] at MM1 ⊢
              clear MM y0 y1 y2 z2 z3 e1 e2 d1 d2 hw2
              have y2 := kept_cell MM1.k HCL.out
              have o4 := MM1.o4
              rw [HKK.out] at o4
              have q0 := o4.cell (j := 0) rfl; have q1 := o4.cell (j := 1) rfl; have q2 := o4.cell (j := 2) rfl; have q3 := o4.cell (j := 3) rfl
              have C1 := Lib.hid fun w' (kk : Kept w2 w') => C43.out i HI.out k HKT.out j (by rw [HEV.out]; exact HJT.out) w' A1 El c1 cl (by rw [← HLX.out, ← HTR.out]; exact MM1.r1.kept kk) (by rw [← HLX.out]; exact (HRL.out.kept MM1.k).kept kk)
              rw [← HLX.out, ← HTR.out] at C1
              refine region_x (fun w' => Kept w2 w') [] (by kernel_rfl) (kept_drew (kept_refl _)) (fun hHeld => ?_)
              refine x_take (i := 0) (oi := { dst := some 59, op := Op.load 37 (Operand.tmp 4), type := 37, pos := "ref.go:193", after := #[], guard := none }) (v := ?_) rfl (by kernel_rfl) (by kernel_rfl) (by kernel_rfl) (by kernel_rfl) (by kernel_rfl) (fun _ _ _ h => h) (Or.inl ⟨rfl, ?_⟩) (by assumption) ?_
              rotate_left
              · (intro w' hSw; replace q0 := kept_cell hSw q0; replace q1 := kept_cell hSw q1; replace q2 := kept_cell hSw q2; replace q3 := kept_cell hSw q3; replace y2 := kept_cell hSw y2; go_simp; try with_reducible rfl)
              try simp only [Act.put, List.setIfInBounds_toArray, List.set_cons_zero, List.set_cons_succ]
              refine x_take (i := 1) (oi := { dst := some 60, op := Op.move (Operand.tmp 11), type := 25, pos := "ref.go:193", after := #[], guard := none }) (v := ?_) rfl (by kernel_rfl) (by kernel_rfl) (by kernel_rfl) (by kernel_rfl) (by kernel_rfl) (fun _ _ _ h => h) (Or.inl ⟨rfl, ?_⟩) (by assumption) ?_
              rotate_left
              · (intro w' hSw; replace q0 := kept_cell hSw q0; replace q1 := kept_cell hSw q1; replace q2 := kept_cell hSw q2; replace q3 := kept_cell hSw q3; replace y2 := kept_cell hSw y2; go_simp; try with_reducible rfl)
              try simp only [Act.put, List.setIfInBounds_toArray, List.set_cons_zero, List.set_cons_succ]
              refine x_take (i := 2) (oi := { dst := some 61, op := Op.move (Operand.tmp 3), type := 43, pos := "ref.go:193", after := #[], guard := none }) (v := ?_) rfl (by kernel_rfl) (by kernel_rfl) (by kernel_rfl) (by kernel_rfl) (by kernel_rfl) (fun _ _ _ h => h) (Or.inl ⟨rfl, ?_⟩) (by assumption) ?_
              rotate_left
              · (intro w' hSw; replace q0 := kept_cell hSw q0; replace q1 := kept_cell hSw q1; replace q2 := kept_cell hSw q2; replace q3 := kept_cell hSw q3; replace y2 := kept_cell hSw y2; go_simp; try with_reducible rfl)
              try simp only [Act.put, List.setIfInBounds_toArray, List.set_cons_zero, List.set_cons_succ]
              refine x_take (i := 3) (oi := { dst := some 62, op := Op.move (Operand.tmp 12), type := 3, pos := "ref.go:193", after := #[], guard := none }) (v := ?_) rfl (by kernel_rfl) (by kernel_rfl) (by kernel_rfl) (by kernel_rfl) (by kernel_rfl) (fun _ _ _ h => h) (Or.inl ⟨rfl, ?_⟩) (by assumption) ?_
              rotate_left
              · (intro w' hSw; replace q0 := kept_cell hSw q0; replace q1 := kept_cell hSw q1; replace q2 := kept_cell hSw q2; replace q3 := kept_cell hSw q3; replace y2 := kept_cell hSw y2; go_simp; try with_reducible rfl)
              try simp only [Act.put, List.setIfInBounds_toArray, List.set_cons_zero, List.set_cons_succ]
              refine x_take (i := 4) (oi := { dst := some 63, op := Op.indexAddr 43 (Operand.tmp 61) (Operand.tmp 62), type := 0, pos := "ref.go:193", after := #[{ on := 2, ground := Ground.data }, { on := 3, ground := Ground.data }], guard := none }) (v := ?_) rfl (by kernel_rfl) (by kernel_rfl) (by kernel_rfl) (by kernel_rfl) (by kernel_rfl) (fun _ _ _ h => h) (Or.inl ⟨rfl, ?_⟩) (by assumption) ?_
              rotate_left
              · (intro w' hSw; replace q0 := kept_cell hSw q0; replace q1 := kept_cell hSw q1; replace q2 := kept_cell hSw q2; replace q3 := kept_cell hSw q3; replace y2 := kept_cell hSw y2; go_simp; try with_reducible rfl)
              try simp only [Act.put, List.setIfInBounds_toArray, List.set_cons_zero, List.set_cons_succ]
              refine x_take (i := 5) (oi := { dst := some 64, op := Op.load 25 (Operand.tmp 63), type := 25, pos := "ref.go:193", after := #[{ on := 4, ground := Ground.data }], guard := none }) (v := ?_) rfl (by kernel_rfl) (by kernel_rfl) (by kernel_rfl) (by kernel_rfl) (by kernel_rfl) (fun _ _ _ h => h) (Or.inl ⟨rfl, ?_⟩) (by assumption) ?_
              rotate_left
              · (intro w' hSw; replace q0 := kept_cell hSw q0; replace q1 := kept_cell hSw q1; replace q2 := kept_cell hSw q2; replace q3 := kept_cell hSw q3; replace y2 := kept_cell hSw y2; go_simp; try with_reducible rfl)
              try simp only [Act.put, List.setIfInBounds_toArray, List.set_cons_zero, List.set_cons_succ]
              refine x_one (i := 6) (o := { dst := some 65, op := Op.call { callee := Callee.value (Operand.func 43), args := #[Operand.tmp 59, Operand.tmp 60, Operand.tmp 64], argTypes := #[37, 25, 25] }, type := 25, pos := "ref.go:193", after := #[{ on := 0, ground := Ground.data }, { on := 1, ground := Ground.data }, { on := 5, ground := Ground.data }], guard := none }) (by kernel_rfl) rfl (fun K hK => ?_)
              (go_simp; go_at_call 43; (with_reducible refine (C1.out _ hHeld).mono ?_); rintro e w6 ⟨A6, c6, out, rfl, ho, hrp, k6⟩; replace ho := Lib.hid ho; have G6 := kept_trans hHeld k6; try dsimp only)
              refine hK.out _ _ ?_ (fun hHeld => ?_)
              · (try dsimp only); repeat (first | assumption | exact kept_refl _ | refine kept_drew ?_ | refine kept_alloc ?_ _ | refine kept_set ?_ (by omega) _)
              clear hK K
              try simp only [Act.put, List.setIfInBounds_toArray, List.set_cons_zero, List.set_cons_succ]
              refine x_take (i := 7) (oi := { dst := some 11, op := Op.assign (Operand.tmp 65), type := 25, pos := "ref.go:193", after := #[{ on := 6, ground := Ground.data }, { on := 6, ground := Ground.chain }, { on := 0, ground := Ground.phase }, { on := 1, ground := Ground.phase }, { on := 2, ground := Ground.phase }, { on := 3, ground := Ground.phase }, { on := 4, ground := Ground.phase }, { on := 5, ground := Ground.phase }, { on := 6, ground := Ground.phase }], guard := none }) (v := ?_) rfl (by kernel_rfl) (by kernel_rfl) (by kernel_rfl) (by kernel_rfl) (by kernel_rfl) (fun _ _ _ h => h) (Or.inl ⟨rfl, ?_⟩) (by assumption) ?_
              rotate_left
              · (intro w' hSw; replace q0 := kept_cell hSw q0; replace q1 := kept_cell hSw q1; replace q2 := kept_cell hSw q2; replace q3 := kept_cell hSw q3; replace y2 := kept_cell hSw y2; go_simp; try with_reducible rfl)
              try simp only [Act.put, List.setIfInBounds_toArray, List.set_cons_zero, List.set_cons_succ]
              refine x_done (by kernel_rfl) ?_ _
              have MM2 := (MM1.step G6).new hrp
              have HPRD : out = prd (addF P M) (mulF P M) t l := ho.out
              have HTN := Lib.hid (show out = powR P M l (j + 1) (tmR P M m ls (tmv p i) k) by rw [HPRD, HTR.out]; rfl)
              have hVS := HIN.out i HI.out k HKT.out j (by rw [HEV.out]; exact hj)
              rw [← HLX.out] at hVS
              have hLV := LV.out k HKT.out
              rw [← HLX.out] at hLV
              have HAS := Lib.hid (show Agr (powS P M l (j + 1) (tmTo P M m ls (tmv p i) k)) out (ov || !fitsB out) by rw [HPRD]; exact HG1.out.step hVS hLV)
              have hol : out.length ≤ 140737488355328 := by
                have := (LEN.out i HI.out k HKT.out (j + 1) (by rw [HEV.out]; exact HJT.out)).1
                rw [← HLX.out, ← HTN.out] at this
                omega
              have CF := Lib.hid fun w' (kk : Kept w6 w') => C19.out w' out A6 c6 (MM2.r1.kept kk) hol
              obtain ⟨fb, hfb⟩ : ∃ b, b = fitsB out := ⟨_, rfl⟩
              rw [← hfb] at CF HAS
              have z1 := MM2.o9.cell (j := 1) rfl
              have f1 := MM2.o9.frozen 1
              clear q0 q1 q2 q3 y2 o4 MM1 hrp ho hVS hLV hfb HPRD hol C1
              cases ov with
              | true =>
                go_wp2_with fail
                go_roundg (ev - (j + 1))
                case rel => exact ⟨j + 1, A6, c6, out, true, HJT.out, rfl, rfl, by go_num, MM2.over true, HTN, HAS, HG⟩
                case measure => have := HJT.out; omega
              | false =>
                go_wp2_with (go_at_call 19; ((with_reducible refine (CF.out _ (kept_refl _)).mono ?_); rintro e w7 ⟨rfl, k7⟩; have MM3 := MM2.step k7; have z11 := MM3.o9.cell (j := 1) rfl; have f11 := MM3.o9.frozen 1))
                go_roundg (ev - (j + 1))
                case rel => exact ⟨j + 1, A6, c6, out, !fb, HJT.out, rfl, rfl, by go_num, MM3.over _, HTN, HAS, Lib.hid (HG.out.more (b := !fb))⟩
                case measure => have := HJT.out; omega
            · obtain rfl : j = ev := by omega
              have b5 : decide ((j : Int) < (j : Int)) = false := decide_eq_false (by omega)
              have b6 : decide (j < j) = false := decide_eq_false (by omega)
              go_wp2_with fail
              go_roundg (ls.length - (k + 1))
              case rel => exact ⟨k + 1, A1, c1, t, ov, _, by omega, rfl, rfl, by go_num, rfl, MM, Lib.hid (by rw [HTR.out]; show _ = powR P M (ls.getD k []) (ia (tmv p i).e k).toNat _; rw [HEV.out, ← HLX.out]), Lib.hid (by show Agr (powS P M (ls.getD k []) (ia (tmv p i).e k).toNat _) t ov; rw [HEV.out, ← HLX.out]; exact HG1.out), HG⟩
              case measure => omega
        · obtain rfl : k = ls.length := by omega
          have o4 := MM.o4
          rw [HKK.out] at o4
          have q0 := o4.cell (j := 0) rfl; have q1 := o4.cell (j := 1) rfl; have q2 := o4.cell (j := 2) rfl; have q3 := o4.cell (j := 3) rfl
          have z0 := MM.o9.cell (j := 0) rfl
          have C1 := Lib.hid fun w' (kk : Kept wr w') => C15.out i HI.out w' A0 A1 c0 c1 (by rw [← HA.out]; exact MM.r0.kept kk) (by rw [← HTR.out]; exact MM.r1.kept kk)
          rw [← HA.out, ← HTR.out] at C1
          have HS := Lib.hid (show mg (addF P M) a t = sbR P M m ls p (i + 1) by rw [HA.out, HTR.out]; rfl)
          have HAG := Lib.hid (show Agr (sbTo P M m ls p (i + 1)) (mg (addF P M) a t) ov from HG.out.add id HG1.out (SV.out i hi) (TV.out i HI.out ls.length (Nat.le_refl _)))
          have hsl : (mg (addF P M) a t).length ≤ 140737488355328 := by
            have := LSB.out (i + 1) HI.out
            rw [← HS.out] at this
            omega
          obtain ⟨s, hs⟩ : ∃ s, s = mg (addF P M) a t := ⟨_, rfl⟩
          rw [← hs] at C1 HS HAG hsl
          have f0 := MM.o9.frozen 0
          have b3 : decide ((ls.length : Int) < (ls.length : Int)) = false := decide_eq_false (by omega)
          have b4 : decide (ls.length < ls.length) = false := decide_eq_false (by omega)
          clear hs o4
          go_upto_region 16 with (go_at_call 15; ((with_reducible refine (C1.out _ (kept_refl _)).mono ?_); rintro e w8 ⟨A8, c8, rfl, hr8, k8⟩; have MM2 := MM.step k8; have f10 := MM2.o9.cell (j := 0) rfl; have f11 := MM2.o9.frozen 0))
          have MM3 := (MM2.sum hr8 c8).new (RP.nil _ none)
          obtain ⟨w9, hw9⟩ : ∃ w9, w9 = w8.setCell ⟨g + 2, 0, none⟩ (.slice A8 s.length c8) := ⟨_, rfl⟩
          rw [← hw9] at MM3 ⊢
          have CF := Lib.hid fun w' (kk : Kept w9 w') => C19.out w' s A8 c8 (MM3.r0.kept kk) hsl
          obtain ⟨fb, hfb⟩ : ∃ b, b = fitsB s := ⟨_, rfl⟩
          rw [← hfb] at CF
          clear q0 q1 q2 q3 z0 f0 f10 f11 hr8 hw9 hfb hsl MM2 MM C1
          have z0 := MM3.o9.cell (j := 0) rfl
          have z1 := MM3.o9.cell (j := 1) rfl
          have f1 := MM3.o9.frozen 1
          cases ov with
          | true =>
            go_wp2_with fail
            go_roundg (p.length - (i + 1))
            case rel => exact ⟨i + 1, A8, c8, s, true, _, _, _, HI.out, rfl, by go_num, rfl, rfl, rfl, MM3.over true, HS, HAG⟩
            case measure => have := HI.out; omega
          | false =>
            go_wp2_with (go_at_call 19; ((with_reducible refine (CF.out _ (kept_refl _)).mono ?_); rintro e w7 ⟨rfl, k7⟩; have MM4 := MM3.step k7; have z11 := MM4.o9.cell (j := 1) rfl; have f11 := MM4.o9.frozen 1))
            go_roundg (p.length - (i + 1))
            case rel => exact ⟨i + 1, A8, c8, s, !fb, _, _, _, HI.out, rfl, by go_num, rfl, rfl, rfl, MM4.over _, HS, Lib.hid (HAG.out.more (b := !fb))⟩
            case measure => have := HI.out; omega
    · obtain rfl : i = p.length := by omega
      have z0 := MM.o9.cell (j := 0) rfl; have z1 := MM.o9.cell (j := 1) rfl; have z2 := MM.o9.cell (j := 2) rfl
      have y0 := MM.o8.cell (j := 0) rfl; have y1 := MM.o8.cell (j := 1) rfl; have y2 := MM.o8.cell (j := 2) rfl
      have f0 := MM.o8.frozen 0; have f1 := MM.o8.frozen 1; have f2 := MM.o8.frozen 2
      have b1 : decide ((p.length : Int) < (p.length : Int)) = false := decide_eq_false (by omega)
      have b2 : decide (p.length < p.length) = false := decide_eq_false (by omega)
      go_wp2_with fail
      have u0 := MM.o8.set 0 (.slice A0 a.length c0)
      have u1 := u0.set 1 (.bool ov)
      have u2 := u1.set 2 (.bool false)
      have r0 := rp_far MM.r0 MM.o8 (noInt_sub _ _ _ _ _) 0 (.slice A0 a.length c0)
      have r1 := rp_far r0 u0 (noInt_sub _ _ _ _ _) 1 (.bool ov)
      have r2 := rp_far r1 u1 (noInt_sub _ _ _ _ _) 2 (.bool false)
      have hgg := MM.hg
      have KF := kept_set (g := g + 1) (j := 2) (kept_set (g := g + 1) (j := 1) (kept_set (g := g + 1) (j := 0) MM.k (by omega) (.slice A0 a.length c0)) (by omega) (.bool ov)) (by omega) (.bool false)
      obtain ⟨W2, hW2⟩ : ∃ W2, W2 = ((wr.setCell ⟨g + 1, 0, none⟩ (.slice A0 a.length c0)).setCell ⟨g + 1, 1, none⟩ (.bool ov)).setCell ⟨g + 1, 2, none⟩ (.bool false) := ⟨_, rfl⟩
      rw [← hW2] at u2 r2 KF ⊢
      have p0 := u2.cell (j := 0) rfl; have p1 := u2.cell (j := 1) rfl; have p2 := u2.cell (j := 2) rfl
      exact bodyPost_ret (v := .agg #[.slice A0 a.length c0, .bool ov, .bool false]) (by simp [results, Tryz.results18, go_sem, p0, p1, p2]) rfl ⟨A0, c0, ov, by rw [← HA.out], by rw [← HA.out]; exact r2, by rw [← HA.out]; exact HG, KF⟩
end Go.Proofs.YtnjmpjdampdmmaaGreatDoor
