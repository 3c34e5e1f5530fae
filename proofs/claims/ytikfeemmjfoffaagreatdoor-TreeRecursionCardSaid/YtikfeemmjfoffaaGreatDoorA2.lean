/- Products of polynomials: the rows' sum and the single terms' sum are the same list, and the highest terms' product stays. -/
import Derived.Test.YtikfeemmjfoffaaGreatDoorF3
set_option linter.unusedVariables false
set_option linter.unusedSimpArgs false
namespace Go.Proofs.YtikfeemmjfoffaaGreatDoor

/-- The sum of two lists of exponents. -/
def addE (a b : List Int) : List Int := List.zipWith (· + ·) a b
theorem addE_len {a b : List Int} {n : Nat} (ha : a.length = n) (hb : b.length = n) : (addE a b).length = n := by simp [addE, ha, hb]
theorem addE_comm : ∀ (a b : List Int), addE a b = addE b a
  | [], [] => rfl
  | [], _ :: _ => rfl
  | _ :: _, [] => rfl
  | a :: as, b :: bs => by
    show (a + b) :: addE as bs = (b + a) :: addE bs as
    rw [addE_comm as bs, Int.add_comm]
theorem addE_assoc : ∀ (a b c : List Int), addE (addE a b) c = addE a (addE b c)
  | [], _, _ => rfl
  | _ :: _, [], _ => rfl
  | _ :: _, _ :: _, [] => rfl
  | a :: as, b :: bs, c :: cs => by
    show (a + b + c) :: addE (addE as bs) cs = (a + (b + c)) :: addE as (addE bs cs)
    rw [addE_assoc as bs cs, Int.add_assoc]
theorem ltL_add : ∀ {a b c : List Int}, a.length = b.length → b.length = c.length → LtL a b → LtL (addE c a) (addE c b)
  | [], [], _, _, _, h => by simp [LtL, cmpL] at h
  | [], _ :: _, _, h, _, _ => by simp at h
  | _ :: _, [], _, h, _, _ => by simp at h
  | _ :: _, _ :: _, [], _, h, _ => by simp at h
  | a :: as, b :: bs, c :: cs, h1, h2, h => by
    show LtL ((c + a) :: addE cs as) ((c + b) :: addE cs bs)
    unfold LtL cmpL at h ⊢
    by_cases e1 : a < b
    · rw [if_pos (by omega)]; omega
    · rw [if_neg e1] at h
      rw [if_neg (by omega)]
      by_cases e2 : b < a
      · rw [if_pos e2] at h; omega
      · rw [if_neg e2] at h
        rw [if_neg (by omega)]
        exact ltL_add (a := as) (b := bs) (c := cs) (by simpa using h1) (by simpa using h2) h

def mulTm (mul : Int → Int → Int) (t u : Tm) : Tm := ⟨mul t.c u.c, addE t.e u.e⟩
def prodL (mul : Int → Int → Int) (p r : List Tm) : List (List Tm) := p.map fun t => r.map (mulTm mul t)
def prodT (mul : Int → Int → Int) (p r : List Tm) : List Tm := p.flatMap fun t => r.map (mulTm mul t)

section
variable {q : Int} {add mul : Int → Int → Int} {neg : Int → Int} {n : Nat}
theorem coef_append (A : AddOk q add) : ∀ {l m : List Tm} (e : List Int), Within q l → Within q m → coef add (l ++ m) e = add (coef add l e) (coef add m e)
  | [], m, e, _, hm => by
    have := coef_range A e hm
    show coef add m e = add 0 _
    rw [A.zero _ this.1 this.2]
  | t :: l, m, e, h, hm => by
    have ht := h t (by simp)
    have hl : Within q l := fun x hx => h x (by simp [hx])
    have r1 := coef_range A e hl
    have r2 := coef_range A e hm
    have ih := coef_append A (l := l) e hl hm
    show coef add (t :: (l ++ m)) e = _
    by_cases he : t.e = e
    · rw [coef, coef, if_pos he, if_pos he, ih, A.assoc _ _ _ ht.1 ht.2 r1.1 r1.2 r2.1 r2.2]
    · rw [coef_cons_ne he, coef_cons_ne he, ih]
theorem coef_flat (A : AddOk q add) : ∀ {l : List (List Tm)} (e : List Int), (∀ p ∈ l, Within q p) → coef add l.flatten e = sumC add l e
  | [], e, _ => rfl
  | p :: l, e, h => by
    have ih := coef_flat A (l := l) e (fun x hx => h x (by simp [hx]))
    rw [List.flatten_cons, coef_append A e (h p (by simp)) (fun t ht => by
      obtain ⟨x, hx, hxt⟩ := List.mem_flatten.1 ht
      exact h x (by simp [hx]) t hxt), ih]
    rfl
/-- A term whose exponents no other term has. -/
theorem coef_alone (A : AddOk q add) {l m : List Tm} {t : Tm} (hl : Within q l) (ht : 0 ≤ t.c ∧ t.c < q) (hm : Within q m) (h1 : ∀ x ∈ l, x.e ≠ t.e) (h2 : ∀ x ∈ m, x.e ≠ t.e) : coef add (l ++ t :: m) t.e = t.c := by
  rw [coef_append A t.e hl (fun x hx => by
    rcases List.mem_cons.1 hx with rfl | hx
    · exact ht
    · exact hm x hx), coef_none h1, coef, if_pos rfl, coef_none h2, add_zero' A ht.1 ht.2, A.zero _ ht.1 ht.2]
theorem mulTm_in (F : FldOk q add mul neg) {t u : Tm} (ht : 1 ≤ t.c ∧ t.c < q) (hu : 1 ≤ u.c ∧ u.c < q) : 1 ≤ (mulTm mul t u).c ∧ (mulTm mul t u).c < q := by
  have h := F.mrange t.c u.c (by omega) ht.2 (by omega) hu.2
  have h1 : mul t.c u.c ≠ 0 := fun e => by
    have := F.nz t.c u.c (by omega) ht.2 (by omega) hu.2 e
    omega
  show 1 ≤ mul t.c u.c ∧ mul t.c u.c < q
  omega
theorem prodT_mem {mul : Int → Int → Int} {p r : List Tm} {z : Tm} : z ∈ prodT mul p r ↔ ∃ t ∈ p, ∃ u ∈ r, z = mulTm mul t u := by
  unfold prodT
  simp only [List.mem_flatMap, List.mem_map]
  constructor
  · rintro ⟨t, ht, u, hu, e⟩; exact ⟨t, ht, u, hu, e.symm⟩
  · rintro ⟨t, ht, u, hu, e⟩; exact ⟨t, ht, u, hu, e.symm⟩
theorem prodT_in (F : FldOk q add mul neg) {p r : List Tm} (hp : Canon q n p) (hr : Canon q n r) : ∀ z ∈ prodT mul p r, z.e.length = n ∧ 1 ≤ z.c ∧ z.c < q := fun z hz => by
  obtain ⟨t, ht, u, hu, rfl⟩ := prodT_mem.1 hz
  exact ⟨addE_len (hp.len t ht) (hr.len u hu), mulTm_in F (hp.c t ht) (hr.c u hu)⟩
theorem row_canon (F : FldOk q add mul neg) {r : List Tm} (hr : Canon q n r) {t : Tm} (ht : t.e.length = n ∧ 1 ≤ t.c ∧ t.c < q) : Canon q n (r.map (mulTm mul t)) := by
  refine ⟨?_, fun x hx => ?_, fun x hx => ?_⟩
  · rw [List.pairwise_map]
    refine List.Pairwise.imp_of_mem (fun {a b} ha hb h => ?_) hr.rise
    exact ltL_add (by rw [hr.len a ha, hr.len b hb]) (by rw [hr.len b hb, ht.1]) h
  · obtain ⟨u, hu, rfl⟩ := List.mem_map.1 hx
    exact addE_len ht.1 (hr.len u hu)
  · obtain ⟨u, hu, rfl⟩ := List.mem_map.1 hx
    exact mulTm_in F ht.2 (hr.c u hu)
theorem prodL_canon (F : FldOk q add mul neg) {p r : List Tm} (hp : Canon q n p) (hr : Canon q n r) : ∀ l ∈ prodL mul p r, Canon q n l := fun l hl => by
  obtain ⟨t, ht, rfl⟩ := List.mem_map.1 hl
  exact row_canon F hr ⟨hp.len t ht, hp.c t ht⟩
theorem prodL_flat (mul : Int → Int → Int) (p r : List Tm) : (prodL mul p r).flatten = prodT mul p r := by
  unfold prodL prodT
  rw [List.flatMap_def]
/-- The product. -/
def prd (add mul : Int → Int → Int) (p r : List Tm) : List Tm := totalT add (prodL mul p r).length (prodL mul p r)
theorem prd_spec (F : FldOk q add mul neg) {p r : List Tm} (hp : Canon q n p) (hr : Canon q n r) : Canon q n (prd add mul p r) ∧ ∀ e, coef add (prd add mul p r) e = coef add (prodT mul p r) e := by
  have hc := prodL_canon F hp hr
  obtain ⟨h1, h2⟩ := totalT_spec F.toAddOk _ (Nat.le_refl _) hc
  refine ⟨h1, fun e => ?_⟩
  rw [prd, h2 e, ← prodL_flat, coef_flat F.toAddOk e fun l hl => (hc l hl).within]
/-- The single terms' sum is the product. -/
theorem prd_single (F : FldOk q add mul neg) {p r : List Tm} (hp : Canon q n p) (hr : Canon q n r) : totalT add (prodT mul p r).length ((prodT mul p r).map fun t => [t]) = prd add mul p r := by
  obtain ⟨h1, h2⟩ := prd_spec F hp hr
  have hw := prodT_in F hp hr
  have hW : Within q (prodT mul p r) := fun t ht => by have := hw t ht; omega
  refine (sum_same F.toAddOk hw h1 fun e he => ?_).symm
  have := coef_range F.toAddOk e hW
  rw [h2 e, putC_coef F.toAddOk e hW (Int.le_refl _) F.pos, F.zero _ this.1 this.2]
theorem coef_mem {l : List Tm} {e : List Int} (h : coef add l e ≠ 0) : ∃ t ∈ l, t.e = e := by
  refine Classical.byContradiction fun hn => h (coef_none fun t ht he => hn ⟨t, ht, he⟩)
theorem Canon.coef_ne (A : AddOk q add) : ∀ {l : List Tm} {t : Tm}, Canon q n l → t ∈ l → coef add l t.e = t.c
  | u :: l, t, h, ht => by
    rcases List.mem_cons.1 ht with rfl | ht
    · exact h.coef_head A
    · rw [coef_cons_ne (fun e => by
        have := (List.pairwise_cons.1 h.rise).1 t ht
        rw [e] at this
        exact ltL_irrefl _ this)]
      exact h.tail.coef_ne A ht
/-- The exponents of the product come from pairs. -/
theorem prd_mem (F : FldOk q add mul neg) {p r : List Tm} (hp : Canon q n p) (hr : Canon q n r) {z : Tm} (hz : z ∈ prd add mul p r) : ∃ t ∈ p, ∃ u ∈ r, z.e = addE t.e u.e := by
  obtain ⟨h1, h2⟩ := prd_spec F hp hr
  have h3 := h1.coef_ne F.toAddOk hz
  rw [h2] at h3
  have h4 := h1.c z hz
  obtain ⟨y, hy, e⟩ := coef_mem (add := add) (l := prodT mul p r) (e := z.e) (by omega)
  obtain ⟨t, ht, u, hu, rfl⟩ := prodT_mem.1 hy
  exact ⟨t, ht, u, hu, e.symm⟩

/-! ### The highest terms -/
/-- The order by a weight, and by the exponents where the weights are equal. -/
def Lo (φ : List Int → Int) (a b : List Int) : Prop := φ a < φ b ∨ (φ a = φ b ∧ LtL a b)
theorem lo_trans {φ : List Int → Int} {a b c : List Int} (h1 : a.length = b.length) (h2 : b.length = c.length) (h : Lo φ a b) (k : Lo φ b c) : Lo φ a c := by
  rcases h with h | ⟨h, h'⟩ <;> rcases k with k | ⟨k, k'⟩
  · exact .inl (by omega)
  · exact .inl (by omega)
  · exact .inl (by omega)
  · exact .inr ⟨by omega, ltL_trans h1 h2 h' k'⟩
theorem lo_ne {φ : List Int → Int} {a b : List Int} (h : Lo φ a b) : a ≠ b := fun e => by
  subst e
  rcases h with h | ⟨_, h⟩
  · omega
  · exact ltL_irrefl _ h
theorem lo_le {φ : List Int → Int} {a b : List Int} (h : Lo φ a b) : φ a ≤ φ b := by
  rcases h with h | ⟨h, _⟩ <;> omega
def Addit (n : Nat) (φ : List Int → Int) : Prop := ∀ a b, a.length = n → b.length = n → φ (addE a b) = φ a + φ b
theorem lo_add {φ : List Int → Int} (hφ : Addit n φ) {a b c : List Int} (ha : a.length = n) (hb : b.length = n) (hc : c.length = n) (h : Lo φ a b) : Lo φ (addE c a) (addE c b) := by
  unfold Lo
  rw [hφ _ _ hc ha, hφ _ _ hc hb]
  rcases h with h | ⟨h, h'⟩
  · exact .inl (by omega)
  · exact .inr ⟨by omega, ltL_add (by omega) (by omega) h'⟩
theorem top_of (φ : List Int → Int) : ∀ {p : List Tm}, Canon q n p → p ≠ [] → ∃ p1 t p2, p = p1 ++ t :: p2 ∧ ∀ x, x ∈ p1 ∨ x ∈ p2 → Lo φ x.e t.e
  | [], _, h => absurd rfl h
  | [t], _, _ => ⟨[], t, [], rfl, by simp⟩
  | t :: u :: p, h, _ => by
    obtain ⟨p1, m, p2, e, hm⟩ := top_of φ (p := u :: p) h.tail (by simp)
    have lt := h.len t (by simp)
    have mm : m ∈ u :: p := by rw [e]; simp
    have lm := h.tail.len m mm
    have hr := (List.pairwise_cons.1 h.rise).1 m mm
    have tri : Lo φ t.e m.e ∨ Lo φ m.e t.e := by
      rcases Int.lt_trichotomy (φ t.e) (φ m.e) with h1 | h1 | h1
      · exact .inl (.inl h1)
      · exact .inl (.inr ⟨h1, hr⟩)
      · exact .inr (.inl h1)
    rcases tri with h1 | h1
    · refine ⟨t :: p1, m, p2, by rw [e]; rfl, fun x hx => ?_⟩
      rcases hx with hx | hx
      · rcases List.mem_cons.1 hx with rfl | hx
        · exact h1
        · exact hm x (.inl hx)
      · exact hm x (.inr hx)
    · refine ⟨[], t, u :: p, rfl, fun x hx => ?_⟩
      rcases hx with hx | hx
      · cases hx
      · have lx := h.tail.len x hx
        rw [e] at hx
        rcases List.mem_append.1 hx with hx | hx
        · exact lo_trans (by omega) (by omega) (hm x (.inl hx)) h1
        · rcases List.mem_cons.1 hx with rfl | hx
          · exact h1
          · exact lo_trans (by omega) (by omega) (hm x (.inr hx)) h1
theorem within_of {l : List Tm} (h : ∀ z ∈ l, z.e.length = n ∧ 1 ≤ z.c ∧ z.c < q) : Within q l := fun t ht => by have := h t ht; omega
/-- The product of the highest terms is in the product. -/
theorem lead (F : FldOk q add mul neg) {φ : List Int → Int} (hφ : Addit n φ) {p r : List Tm} (hp : Canon q n p) (hr : Canon q n r) (p0 : p ≠ []) (r0 : r ≠ []) :
    ∃ t ∈ p, ∃ u ∈ r, (∀ x ∈ p, φ x.e ≤ φ t.e) ∧ (∀ y ∈ r, φ y.e ≤ φ u.e) ∧ ∃ z ∈ prd add mul p r, z.e = addE t.e u.e := by
  obtain ⟨p1, t, p2, ep, hp'⟩ := top_of φ hp p0
  obtain ⟨r1, u, r2, er, hr'⟩ := top_of φ hr r0
  have tm : t ∈ p := by rw [ep]; simp
  have um : u ∈ r := by rw [er]; simp
  have lt := hp.len t tm
  have lu := hr.len u um
  refine ⟨t, tm, u, um, fun x hx => ?_, fun y hy => ?_, ?_⟩
  · rw [ep] at hx
    rcases List.mem_append.1 hx with hx | hx
    · exact lo_le (hp' x (.inl hx))
    · rcases List.mem_cons.1 hx with rfl | hx
      · exact Int.le_refl _
      · exact lo_le (hp' x (.inr hx))
  · rw [er] at hy
    rcases List.mem_append.1 hy with hy | hy
    · exact lo_le (hr' y (.inl hy))
    · rcases List.mem_cons.1 hy with rfl | hy
      · exact Int.le_refl _
      · exact lo_le (hr' y (.inr hy))
  · obtain ⟨h1, h2⟩ := prd_spec F hp hr
    have hin := prodT_in F hp hr
    have e : prodT mul p r = (prodT mul p1 r ++ r1.map (mulTm mul t)) ++ mulTm mul t u :: (r2.map (mulTm mul t) ++ prodT mul p2 r) := by
      unfold prodT
      conv => lhs; rw [ep]
      rw [List.flatMap_append, List.flatMap_cons]
      conv => lhs; arg 2; arg 1; rw [er]
      simp [List.append_assoc]
    have hsub1 : ∀ z ∈ prodT mul p1 r ++ r1.map (mulTm mul t), z ∈ prodT mul p r := fun z hz => by rw [e]; exact List.mem_append_left _ hz
    have hsub2 : ∀ z ∈ r2.map (mulTm mul t) ++ prodT mul p2 r, z ∈ prodT mul p r := fun z hz => by rw [e]; exact List.mem_append_right _ (List.mem_cons_of_mem _ hz)
    have low1 : ∀ x ∈ p, (x ∈ p1 ∨ x ∈ p2) → ∀ y ∈ r, Lo φ (addE x.e y.e) (addE t.e u.e) := fun x hx hx' y hy => by
      have lx := hp.len x hx
      have ly := hr.len y hy
      have h3 : Lo φ (addE x.e y.e) (addE t.e y.e) := by
        rw [addE_comm x.e, addE_comm t.e]
        exact lo_add hφ lx lt ly (hp' x hx')
      rw [er] at hy
      rcases List.mem_append.1 hy with hy | hy
      · exact lo_trans (by rw [addE_len lx ly, addE_len lt ly]) (by rw [addE_len lt ly, addE_len lt lu]) h3 (lo_add hφ ly lu lt (hr' y (.inl hy)))
      · rcases List.mem_cons.1 hy with rfl | hy
        · exact h3
        · exact lo_trans (by rw [addE_len lx ly, addE_len lt ly]) (by rw [addE_len lt ly, addE_len lt lu]) h3 (lo_add hφ ly lu lt (hr' y (.inr hy)))
    have low2 : ∀ y, (y ∈ r1 ∨ y ∈ r2) → Lo φ (addE t.e y.e) (addE t.e u.e) := fun y hy => by
      have ly : y.e.length = n := hr.len y (by rw [er]; rcases hy with hy | hy <;> simp [hy])
      exact lo_add hφ ly lu lt (hr' y hy)
    have hc : coef add (prodT mul p r) (mulTm mul t u).e = (mulTm mul t u).c := by
      rw [e]
      refine coef_alone F.toAddOk (within_of fun z hz => hin z (hsub1 z hz)) ?_ (within_of fun z hz => hin z (hsub2 z hz)) (fun x hx => ?_) (fun x hx => ?_)
      · have := mulTm_in F (hp.c t tm) (hr.c u um); omega
      · rcases List.mem_append.1 hx with hx | hx
        · obtain ⟨a, ha, b, hb, rfl⟩ := prodT_mem.1 hx
          exact lo_ne (low1 a (by rw [ep]; simp [ha]) (.inl ha) b hb)
        · obtain ⟨b, hb, rfl⟩ := List.mem_map.1 hx
          exact lo_ne (low2 b (.inl hb))
      · rcases List.mem_append.1 hx with hx | hx
        · obtain ⟨b, hb, rfl⟩ := List.mem_map.1 hx
          exact lo_ne (low2 b (.inr hb))
        · obtain ⟨a, ha, b, hb, rfl⟩ := prodT_mem.1 hx
          exact lo_ne (low1 a (by rw [ep]; simp [ha]) (.inr ha) b hb)
    have h5 := mulTm_in F (hp.c t tm) (hr.c u um)
    obtain ⟨z, hz, ez⟩ := coef_mem (add := add) (l := prd add mul p r) (e := addE t.e u.e) (by
      rw [h2]
      show coef add (prodT mul p r) (mulTm mul t u).e ≠ 0
      rw [hc]
      omega)
    exact ⟨z, hz, ez⟩
end
end Go.Proofs.YtikfeemmjfoffaaGreatDoor
