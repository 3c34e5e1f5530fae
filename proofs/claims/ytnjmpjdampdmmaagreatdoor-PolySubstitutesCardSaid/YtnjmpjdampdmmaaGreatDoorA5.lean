/- The polynomials form a ring: sums and products of canonical lists; plain. -/
import Derived.Test.YtnjmpjdampdmmaaGreatDoorD1
set_option linter.unusedVariables false
set_option linter.unusedSimpArgs false
set_option linter.unusedSectionVars false
namespace Go.Proofs.YtnjmpjdampdmmaaGreatDoor

def subE (a b : List Int) : List Int := List.zipWith (· - ·) a b
theorem subE_len {a b : List Int} {n : Nat} (ha : a.length = n) (hb : b.length = n) : (subE a b).length = n := by simp [subE, ha, hb]
theorem add_sub_iff : ∀ {t u e : List Int}, t.length = e.length → u.length = e.length → (addE t u = e ↔ u = subE e t)
  | [], [], [], _, _ => by simp [addE, subE]
  | [], _, _ :: _, h, _ => by simp at h
  | _ :: _, _, [], h, _ => by simp at h
  | _, [], _ :: _, _, h => by simp at h
  | _, _ :: _, [], _, h => by simp at h
  | a :: t, b :: u, c :: e, h1, h2 => by
    have ih := add_sub_iff (t := t) (u := u) (e := e) (by simpa using h1) (by simpa using h2)
    show ((a + b) :: addE t u = c :: e) ↔ (b :: u = (c - a) :: subE e t)
    simp only [List.cons.injEq, ih]
    refine and_congr ?_ Iff.rfl
    constructor <;> intro h <;> omega
theorem subE_swap : ∀ (e t u : List Int), subE (subE e t) u = subE (subE e u) t
  | [], _, _ => by simp [subE]
  | _ :: _, [], u => by cases u <;> simp [subE]
  | _ :: _, _ :: _, [] => by simp [subE]
  | c :: e, a :: t, b :: u => by
    show (c - a - b) :: subE (subE e t) u = (c - b - a) :: subE (subE e u) t
    rw [subE_swap e t u]
    congr 1
    omega
section
variable {q : Int} {add mul : Int → Int → Int} {neg : Int → Int} {n : Nat}
/-- A sum over the terms of p of the coefficient times a value of f. -/
def cv (add mul : Int → Int → Int) (f : List Int → Int) : List Tm → List Int → Int
  | [], _ => 0
  | t :: p, e => add (mul t.c (f (subE e t.e))) (cv add mul f p e)
def InR (q : Int) (f : List Int → Int) : Prop := ∀ e, 0 ≤ f e ∧ f e < q
theorem coef_inR (F : FldOk q add mul neg) {p : List Tm} (hp : Within q p) : InR q (coef add p) := fun e => coef_range F.toAddOk e hp
theorem cv_in (F : FldOk q add mul neg) {f : List Int → Int} (hf : InR q f) : ∀ {p : List Tm}, Within q p → InR q (cv add mul f p)
  | [], _ => fun e => ⟨Int.le_refl _, F.pos⟩
  | t :: p, h => fun e => by
    have ht := h t (by simp)
    have ih := cv_in F hf (p := p) (fun x hx => h x (by simp [hx])) e
    have h1 := hf (subE e t.e)
    have h2 := F.mrange _ _ ht.1 ht.2 h1.1 h1.2
    exact F.range _ _ h2.1 h2.2 ih.1 ih.2
theorem cv_congr {f g : List Int → Int} : ∀ {p : List Tm} {e : List Int}, e.length = n → (∀ t ∈ p, t.e.length = n) → (∀ e, e.length = n → f e = g e) → cv add mul f p e = cv add mul g p e
  | [], _, _, _, _ => rfl
  | t :: p, e, he, hl, h => by
    show add (mul t.c (f _)) _ = add (mul t.c (g _)) _
    rw [h _ (subE_len he (hl t (by simp))), cv_congr he (fun x hx => hl x (by simp [hx])) h]
theorem add4 (F : FldOk q add mul neg) {a b c d : Int} (ha : 0 ≤ a ∧ a < q) (hb : 0 ≤ b ∧ b < q) (hc : 0 ≤ c ∧ c < q) (hd : 0 ≤ d ∧ d < q) : add (add a b) (add c d) = add (add a c) (add b d) := by
  have bd := F.range _ _ hb.1 hb.2 hd.1 hd.2
  have cd := F.range _ _ hc.1 hc.2 hd.1 hd.2
  rw [F.assoc _ _ _ ha.1 ha.2 hb.1 hb.2 cd.1 cd.2, F.assoc _ _ _ ha.1 ha.2 hc.1 hc.2 bd.1 bd.2, ← F.assoc _ _ _ hb.1 hb.2 hc.1 hc.2 hd.1 hd.2, ← F.assoc _ _ _ hc.1 hc.2 hb.1 hb.2 hd.1 hd.2, F.comm b c hb.1 hb.2 hc.1 hc.2]
theorem distl (F : FldOk q add mul neg) {a b c : Int} (ha : 0 ≤ a ∧ a < q) (hb : 0 ≤ b ∧ b < q) (hc : 0 ≤ c ∧ c < q) : mul c (add a b) = add (mul c a) (mul c b) := by
  have ab := F.range _ _ ha.1 ha.2 hb.1 hb.2
  rw [F.mcomm c _ hc.1 hc.2 ab.1 ab.2, F.distr _ _ _ ha.1 ha.2 hb.1 hb.2 hc.1 hc.2, F.mcomm a c ha.1 ha.2 hc.1 hc.2, F.mcomm b c hb.1 hb.2 hc.1 hc.2]
theorem mzr (F : FldOk q add mul neg) {a : Int} (ha : 0 ≤ a ∧ a < q) : mul a 0 = 0 := by
  rw [F.mcomm a 0 ha.1 ha.2 (Int.le_refl _) F.pos, F.mzero a ha.1 ha.2]
theorem azz (F : FldOk q add mul neg) : add 0 0 = 0 := F.zero 0 (Int.le_refl _) F.pos
theorem cv_add (F : FldOk q add mul neg) {f g : List Int → Int} (hf : InR q f) (hg : InR q g) : ∀ {p : List Tm} (e : List Int), Within q p → cv add mul (fun e => add (f e) (g e)) p e = add (cv add mul f p e) (cv add mul g p e)
  | [], _, _ => (azz F).symm
  | t :: p, e, h => by
    have ht := h t (by simp)
    have hp : Within q p := fun x hx => h x (by simp [hx])
    have h1 := hf (subE e t.e)
    have h2 := hg (subE e t.e)
    have m1 := F.mrange _ _ ht.1 ht.2 h1.1 h1.2
    have m2 := F.mrange _ _ ht.1 ht.2 h2.1 h2.2
    show add (mul t.c (add _ _)) (cv add mul _ p e) = add (add (mul t.c _) _) (add (mul t.c _) _)
    rw [cv_add F hf hg e hp, distl F h1 h2 ht, add4 F m1 m2 (cv_in F hf hp e) (cv_in F hg hp e)]
theorem cv_scale (F : FldOk q add mul neg) {f : List Int → Int} (hf : InR q f) {c : Int} (hc : 0 ≤ c ∧ c < q) (d : List Int) : ∀ {p : List Tm} (e : List Int), Within q p → cv add mul (fun e => mul c (f (subE e d))) p e = mul c (cv add mul f p (subE e d))
  | [], _, _ => (mzr F hc).symm
  | t :: p, e, h => by
    have ht := h t (by simp)
    have hp : Within q p := fun x hx => h x (by simp [hx])
    have h1 := hf (subE (subE e d) t.e)
    have m1 := F.mrange _ _ ht.1 ht.2 h1.1 h1.2
    have m2 := F.mrange _ _ hc.1 hc.2 ht.1 ht.2
    show add (mul t.c (mul c (f (subE (subE e t.e) d)))) (cv add mul _ p e) = mul c (add (mul t.c (f (subE (subE e d) t.e))) (cv add mul f p (subE e d)))
    rw [cv_scale F hf hc d e hp, distl F m1 (cv_in F hf hp _) hc, subE_swap e t.e d, ← F.massoc _ _ _ ht.1 ht.2 hc.1 hc.2 h1.1 h1.2, ← F.massoc _ _ _ hc.1 hc.2 ht.1 ht.2 h1.1 h1.2, F.mcomm t.c c ht.1 ht.2 hc.1 hc.2]
theorem cv_zero (F : FldOk q add mul neg) : ∀ {p : List Tm} (e : List Int), Within q p → cv add mul (fun _ => 0) p e = 0
  | [], _, _ => rfl
  | t :: p, e, h => by
    show add (mul t.c 0) (cv add mul _ p e) = 0
    rw [cv_zero F e (fun x hx => h x (by simp [hx])), mzr F (h t (by simp)), azz F]
theorem cv_swap (F : FldOk q add mul neg) {f : List Int → Int} (hf : InR q f) : ∀ {r p : List Tm} (e : List Int), Within q r → Within q p → cv add mul (cv add mul f p) r e = cv add mul (cv add mul f r) p e
  | [], p, e, _, hp => (cv_zero F e hp).symm
  | u :: r, p, e, hr, hp => by
    have hu := hr u (by simp)
    have hr' : Within q r := fun x hx => hr x (by simp [hx])
    have e1 : cv add mul (cv add mul f (u :: r)) p e = cv add mul (fun e' => add (mul u.c (f (subE e' u.e))) (cv add mul f r e')) p e := rfl
    rw [e1, cv_add F (fun e' => F.mrange _ _ hu.1 hu.2 (hf _).1 (hf _).2) (cv_in F hf hr') e hp, cv_scale F hf hu u.e e hp, ← cv_swap F hf e hr' hp]
    rfl
/-- The product's coefficients. -/
theorem coef_row (F : FldOk q add mul neg) {t : Tm} (ht : 0 ≤ t.c ∧ t.c < q) (lt : t.e.length = n) : ∀ {r : List Tm} (e : List Int), e.length = n → Within q r → (∀ u ∈ r, u.e.length = n) → coef add (r.map (mulTm mul t)) e = mul t.c (coef add r (subE e t.e))
  | [], _, _, _, _ => (mzr F ht).symm
  | u :: r, e, he, hr, hl => by
    have hu := hr u (by simp)
    have hr' : Within q r := fun x hx => hr x (by simp [hx])
    have ih := coef_row F ht lt (r := r) e he hr' (fun x hx => hl x (by simp [hx]))
    have lu := hl u (by simp)
    have iff1 := add_sub_iff (t := t.e) (u := u.e) (e := e) (by omega) (by omega)
    have hc := coef_range F.toAddOk (subE e t.e) hr'
    rw [List.map_cons]
    by_cases h : u.e = subE e t.e
    · rw [coef, if_pos (show (mulTm mul t u).e = e from iff1.2 h), ih, coef, if_pos h, distl F hu hc ht]
      rfl
    · rw [coef_cons_ne (show (mulTm mul t u).e ≠ e from fun h2 => h (iff1.1 h2)), ih, coef_cons_ne h]
theorem coef_prodT (F : FldOk q add mul neg) {r : List Tm} (hr : Canon q n r) : ∀ {p : List Tm} (e : List Int), e.length = n → Canon q n p → coef add (prodT mul p r) e = cv add mul (coef add r) p e
  | [], _, _, _ => rfl
  | t :: p, e, he, hp => by
    have ht := hp.c t (by simp)
    have lt := hp.len t (by simp)
    have h1 := row_canon F hr (t := t) ⟨lt, ht⟩
    show coef add (r.map (mulTm mul t) ++ prodT mul p r) e = _
    rw [coef_append F.toAddOk e h1.within (within_of (prodT_in F hp.tail hr)), coef_row F ⟨by omega, ht.2⟩ lt e he hr.within hr.len, coef_prodT F hr e he hp.tail]
    rfl
theorem coef_prd (F : FldOk q add mul neg) {p r : List Tm} (hp : Canon q n p) (hr : Canon q n r) {e : List Int} (he : e.length = n) : coef add (prd add mul p r) e = cv add mul (coef add r) p e := by
  rw [(prd_spec F hp hr).2, coef_prodT F hr e he hp]
/-- One term's contribution. -/
def one1 (t : Tm) (e : List Int) : Int := if t.e = e then t.c else 0
theorem cv_one (F : FldOk q add mul neg) {t : Tm} (ht : 0 ≤ t.c ∧ t.c < q) (lt : t.e.length = n) : ∀ {r : List Tm} (e : List Int), e.length = n → Within q r → (∀ u ∈ r, u.e.length = n) → cv add mul (one1 t) r e = mul t.c (coef add r (subE e t.e))
  | [], _, _, _, _ => (mzr F ht).symm
  | u :: r, e, he, hr, hl => by
    have hu := hr u (by simp)
    have hr' : Within q r := fun x hx => hr x (by simp [hx])
    have ih := cv_one F ht lt (r := r) e he hr' (fun x hx => hl x (by simp [hx]))
    have lu := hl u (by simp)
    have i1 := add_sub_iff (t := t.e) (u := u.e) (e := e) (by omega) (by omega)
    have i2 := add_sub_iff (t := u.e) (u := t.e) (e := e) (by omega) (by omega)
    have hc := coef_range F.toAddOk (subE e t.e) hr'
    have hm := F.mrange _ _ ht.1 ht.2 hc.1 hc.2
    show add (mul u.c (one1 t (subE e u.e))) (cv add mul _ r e) = _
    rw [ih]
    by_cases h : u.e = subE e t.e
    · have h2 : t.e = subE e u.e := i2.1 (by rw [addE_comm]; exact i1.2 h)
      rw [one1, if_pos h2, coef, if_pos h, distl F hu hc ht, F.mcomm u.c t.c hu.1 hu.2 ht.1 ht.2]
    · have h2 : ¬ t.e = subE e u.e := fun h3 => h (i1.1 (by rw [addE_comm]; exact i2.2 h3))
      rw [one1, if_neg h2, coef_cons_ne h, mzr F hu, F.zero _ hm.1 hm.2]
theorem one1_in (F : FldOk q add mul neg) {t : Tm} (ht : 0 ≤ t.c ∧ t.c < q) : InR q (one1 t) := fun e => by
  unfold one1
  split
  · exact ht
  · exact ⟨Int.le_refl _, F.pos⟩
theorem cv_comm (F : FldOk q add mul neg) {r : List Tm} (hr : Canon q n r) : ∀ {p : List Tm} (e : List Int), e.length = n → Canon q n p → cv add mul (coef add r) p e = cv add mul (coef add p) r e
  | [], e, _, _ => (cv_zero F e hr.within).symm
  | t :: p, e, he, hp => by
    have ht := hp.c t (by simp)
    have lt := hp.len t (by simp)
    have ht' : 0 ≤ t.c ∧ t.c < q := ⟨by omega, ht.2⟩
    have e1 : cv add mul (coef add (t :: p)) r e = cv add mul (fun e' => add (one1 t e') (coef add p e')) r e := by
      refine cv_congr he hr.len fun e' he' => ?_
      have hc := coef_range F.toAddOk e' hp.tail.within
      unfold one1
      by_cases h : t.e = e'
      · rw [coef, if_pos h, if_pos h]
      · rw [coef_cons_ne h, if_neg h, F.zero _ hc.1 hc.2]
    rw [e1, cv_add F (one1_in F ht') (coef_inR F hp.tail.within) e hr.within, cv_one F ht' lt e he hr.within hr.len, ← cv_comm F hr e he hp.tail]
    rfl

/-! ### Sums -/
def adG (add : Int → Int → Int) (p r : List Tm) : List Tm := totalT add (p ++ r).length ((p ++ r).map fun t => [t])
theorem adG_spec (F : FldOk q add mul neg) {p r : List Tm} (hp : Canon q n p) (hr : Canon q n r) : Canon q n (adG add p r) ∧ ∀ e, coef add (adG add p r) e = add (coef add p e) (coef add r e) := by
  have hw : ∀ t ∈ p ++ r, t.e.length = n ∧ 1 ≤ t.c ∧ t.c < q := fun t ht => by
    rcases List.mem_append.1 ht with h | h
    · exact ⟨hp.len t h, hp.c t h⟩
    · exact ⟨hr.len t h, hr.c t h⟩
  obtain ⟨h1, h2⟩ := totalT_spec (n := n) F.toAddOk (p ++ r).length (l := (p ++ r).map fun t => [t]) (by simp) (fun l hl => by
    obtain ⟨t, ht, rfl⟩ := List.mem_map.1 hl
    exact ⟨List.pairwise_singleton _ _, fun x hx => by rw [List.mem_singleton.1 hx]; exact (hw t ht).1, fun x hx => by rw [List.mem_singleton.1 hx]; exact (hw t ht).2⟩)
  refine ⟨h1, fun e => ?_⟩
  rw [adG, h2, sumC_single F.toAddOk e (within_of hw), coef_append F.toAddOk e hp.within hr.within]
theorem ad_comm (F : FldOk q add mul neg) {p r : List Tm} (hp : Canon q n p) (hr : Canon q n r) : adG add p r = adG add r p := by
  obtain ⟨c1, s1⟩ := adG_spec F hp hr
  obtain ⟨c2, s2⟩ := adG_spec F hr hp
  refine canon_ext F.toAddOk c1 c2 fun e he => ?_
  have a := coef_range F.toAddOk e hp.within
  have b := coef_range F.toAddOk e hr.within
  rw [s1, s2, F.comm _ _ a.1 a.2 b.1 b.2]
theorem ad_assoc (F : FldOk q add mul neg) {p r s : List Tm} (hp : Canon q n p) (hr : Canon q n r) (hs : Canon q n s) : adG add (adG add p r) s = adG add p (adG add r s) := by
  obtain ⟨c1, s1⟩ := adG_spec F hp hr
  obtain ⟨c2, s2⟩ := adG_spec F hr hs
  obtain ⟨c3, s3⟩ := adG_spec F c1 hs
  obtain ⟨c4, s4⟩ := adG_spec F hp c2
  refine canon_ext F.toAddOk c3 c4 fun e he => ?_
  have a := coef_range F.toAddOk e hp.within
  have b := coef_range F.toAddOk e hr.within
  have c := coef_range F.toAddOk e hs.within
  rw [s3, s4, s1, s2, F.assoc _ _ _ a.1 a.2 b.1 b.2 c.1 c.2]
/-! ### Products -/
theorem prd_comm (F : FldOk q add mul neg) {p r : List Tm} (hp : Canon q n p) (hr : Canon q n r) : prd add mul p r = prd add mul r p := by
  refine canon_ext F.toAddOk (prd_spec F hp hr).1 (prd_spec F hr hp).1 fun e he => ?_
  rw [coef_prd F hp hr he, coef_prd F hr hp he, cv_comm F hr e he hp]
theorem prd_distr (F : FldOk q add mul neg) {p r s : List Tm} (hp : Canon q n p) (hr : Canon q n r) (hs : Canon q n s) : prd add mul p (adG add r s) = adG add (prd add mul p r) (prd add mul p s) := by
  obtain ⟨c2, s2⟩ := adG_spec F hr hs
  have h1 := prd_spec F hp hr
  have h3 := prd_spec F hp hs
  obtain ⟨c4, s4⟩ := adG_spec F h1.1 h3.1
  refine canon_ext F.toAddOk (prd_spec F hp c2).1 c4 fun e he => ?_
  rw [coef_prd F hp c2 he, s4, coef_prd F hp hr he, coef_prd F hp hs he, ← cv_add F (coef_inR F hr.within) (coef_inR F hs.within) e hp.within]
  exact cv_congr he hp.len fun e' _ => s2 e'
theorem prd_assoc (F : FldOk q add mul neg) {p r s : List Tm} (hp : Canon q n p) (hr : Canon q n r) (hs : Canon q n s) : prd add mul (prd add mul p r) s = prd add mul p (prd add mul r s) := by
  have h1 := prd_spec F hp hr
  have h2 := prd_spec F hr hs
  refine canon_ext F.toAddOk (prd_spec F h1.1 hs).1 (prd_spec F hp h2.1).1 fun e he => ?_
  rw [coef_prd F h1.1 hs he, cv_comm F hs e he h1.1, coef_prd F hp h2.1 he]
  have e1 : cv add mul (coef add (prd add mul p r)) s e = cv add mul (cv add mul (coef add r) p) s e := cv_congr he hs.len fun e' he' => coef_prd F hp hr he'
  have e2 : cv add mul (coef add (prd add mul r s)) p e = cv add mul (cv add mul (coef add r) s) p e := cv_congr he hp.len fun e' he' => by rw [coef_prd F hr hs he', cv_comm F hs e' he' hr]
  rw [e1, e2, cv_swap F (coef_inR F hr.within) e hs.within hp.within]
theorem prd_nil_l (r : List Tm) : prd add mul [] r = [] := rfl
theorem prd_nil_r (F : FldOk q add mul neg) {p : List Tm} (hp : Canon q n p) : prd add mul p [] = [] := by
  rw [prd_comm F hp (Canon.nil q n)]
  rfl

/-! ### Degrees -/
theorem sum_addE : ∀ {a b : List Int}, a.length = b.length → (addE a b).sum = a.sum + b.sum
  | [], [], _ => rfl
  | [], _ :: _, h => by simp at h
  | _ :: _, [], h => by simp at h
  | a :: xs, b :: ys, h => by
    have ih := sum_addE (a := xs) (b := ys) (by simpa using h)
    show ((a + b) :: addE xs ys).sum = _
    simp only [List.sum_cons, ih]
    omega
theorem addit_sum (n : Nat) : Addit n List.sum := fun a b ha hb => sum_addE (by omega)
theorem fold_max : ∀ (l : List Tm) (d m : Int), d ≤ m → (∀ t ∈ l, degT t ≤ m) → (d = m ∨ ∃ t ∈ l, degT t = m) → l.foldl (fun d t => max d (degT t)) d = m
  | [], d, m, _, _, h => by
    rcases h with h | ⟨t, ht, _⟩
    · exact h
    · cases ht
  | t :: l, d, m, hd, hl, h => by
    show l.foldl _ (max d (degT t)) = m
    have h1 := hl t (by simp)
    refine fold_max l _ m (by omega) (fun x hx => hl x (by simp [hx])) ?_
    rcases h with h | ⟨x, hx, hxm⟩
    · left; omega
    · rcases List.mem_cons.1 hx with rfl | hx
      · left; omega
      · exact .inr ⟨x, hx, hxm⟩
theorem degP_max {p : List Tm} {t : Tm} (ht : t ∈ p) (h : ∀ x ∈ p, degT x ≤ degT t) (h0 : -1 ≤ degT t) : degP p = degT t := by
  unfold degP degTo
  rw [List.take_length]
  exact fold_max p (-1) _ h0 h (.inr ⟨t, ht, rfl⟩)
theorem sum_nonneg : ∀ {l : List Int}, (∀ x ∈ l, 0 ≤ x) → 0 ≤ l.sum
  | [], _ => by simp
  | x :: l, h => by
    have := sum_nonneg (l := l) fun y hy => h y (by simp [hy])
    have := h x (by simp)
    simp only [List.sum_cons]
    omega
theorem deg_prd (F : FldOk q add mul neg) {p r : List Tm} (hp : Canon q n p) (hr : Canon q n r) (p0 : p ≠ []) (r0 : r ≠ []) (ep : ∀ t ∈ p, ∀ x ∈ t.e, 0 ≤ x) (er : ∀ t ∈ r, ∀ x ∈ t.e, 0 ≤ x) : degP (prd add mul p r) = degP p + degP r := by
  obtain ⟨t, ht, u, hu, h1, h2, z, hz, hze⟩ := lead F (addit_sum n) hp hr p0 r0
  have dz : degT z = degT t + degT u := by
    unfold degT
    rw [hze, sum_addE (by rw [hp.len t ht, hr.len u hu])]
  have dt : 0 ≤ degT t := sum_nonneg (ep t ht)
  have du : 0 ≤ degT u := sum_nonneg (er u hu)
  rw [degP_max ht h1 (by omega), degP_max hu h2 (by omega), degP_max hz (fun x hx => by
    obtain ⟨a, ha, b, hb, e⟩ := prd_mem F hp hr hx
    have : degT x = degT a + degT b := by
      unfold degT
      rw [e, sum_addE (by rw [hp.len a ha, hr.len b hb])]
    have h3 : degT a ≤ degT t := h1 a ha
    have h4 : degT b ≤ degT u := h2 b hb
    omega) (by omega), dz]
end
end Go.Proofs.YtnjmpjdampdmmaaGreatDoor
