/- Sums of terms with exponents, over any commutative addition: canonical lists are fixed by their coefficients. -/
set_option linter.unusedVariables false
set_option linter.unusedSimpArgs false
namespace Go.Proofs.YtikfeemmjfoffaaGreatDoor

/-- A term: its coefficient and its exponents. -/
structure Tm where
  c : Int
  e : List Int
deriving DecidableEq

/-- The comparison of lists of one length, value by value. -/
def cmpL : List Int → List Int → Int
  | a :: as, b :: bs => if a < b then -1 else if b < a then 1 else cmpL as bs
  | _, _ => 0
theorem cmpL_self : ∀ a : List Int, cmpL a a = 0
  | [] => rfl
  | a :: as => by simp [cmpL, cmpL_self as]
theorem cmpL_eq : ∀ {a b : List Int}, a.length = b.length → cmpL a b = 0 → a = b
  | [], [], _, _ => rfl
  | [], _ :: _, h, _ => by simp at h
  | _ :: _, [], h, _ => by simp at h
  | a :: as, b :: bs, h, hc => by
    unfold cmpL at hc
    split at hc
    · cases hc
    · split at hc
      · cases hc
      · have h1 : a = b := by omega
        have h2 := cmpL_eq (a := as) (b := bs) (by simpa using h) hc
        rw [h1, h2]
theorem cmpL_neg : ∀ (a b : List Int), cmpL b a = - cmpL a b
  | [], [] => rfl
  | [], _ :: _ => rfl
  | _ :: _, [] => rfl
  | a :: as, b :: bs => by
    have ih := cmpL_neg as bs
    unfold cmpL
    split <;> split <;> try split
    all_goals first | rfl | omega | (exact ih) | skip
theorem cmpL_range : ∀ (a b : List Int), cmpL a b = -1 ∨ cmpL a b = 0 ∨ cmpL a b = 1
  | [], [] => .inr (.inl rfl)
  | [], _ :: _ => .inr (.inl rfl)
  | _ :: _, [] => .inr (.inl rfl)
  | a :: as, b :: bs => by
    unfold cmpL
    split
    · exact .inl rfl
    · split
      · exact .inr (.inr rfl)
      · exact cmpL_range as bs
/-- The order is strict and transitive. -/
def LtL (a b : List Int) : Prop := cmpL a b < 0
theorem ltL_irrefl (a : List Int) : ¬ LtL a a := by simp [LtL, cmpL_self]
theorem ltL_trans : ∀ {a b c : List Int}, a.length = b.length → b.length = c.length → LtL a b → LtL b c → LtL a c
  | [], [], _, _, _, h, _ => by simp [LtL, cmpL] at h
  | [], _ :: _, _, h, _, _, _ => by simp at h
  | _ :: _, [], _, h, _, _, _ => by simp at h
  | _ :: _, _ :: _, [], _, h, _, _ => by simp at h
  | a :: as, b :: bs, c :: cs, h1, h2, hab, hbc => by
    unfold LtL at *
    unfold cmpL at hab hbc ⊢
    by_cases p1 : a < b
    · by_cases p2 : b < c
      · rw [if_pos (by omega)]; decide
      · rw [if_neg p2] at hbc
        by_cases p3 : c < b
        · rw [if_pos p3] at hbc; cases hbc
        · rw [if_pos (by omega)]; decide
    · rw [if_neg p1] at hab
      by_cases p4 : b < a
      · rw [if_pos p4] at hab; cases hab
      · rw [if_neg p4] at hab
        by_cases p2 : b < c
        · rw [if_pos (by omega)]; decide
        · rw [if_neg p2] at hbc
          by_cases p3 : c < b
          · rw [if_pos p3] at hbc; cases hbc
          · rw [if_neg p3] at hbc
            rw [if_neg (by omega), if_neg (by omega)]
            exact ltL_trans (by simpa using h1) (by simpa using h2) hab hbc
theorem ltL_total {a b : List Int} (h : a.length = b.length) : LtL a b ∨ a = b ∨ LtL b a := by
  rcases cmpL_range a b with h1 | h1 | h1
  · left; unfold LtL; omega
  · right; left; exact cmpL_eq h h1
  · right; right; unfold LtL; rw [cmpL_neg a b]; omega

/-- An addition on the numbers below q. -/
structure AddOk (q : Int) (add : Int → Int → Int) : Prop where
  pos : 0 < q
  range : ∀ a b, 0 ≤ a → a < q → 0 ≤ b → b < q → 0 ≤ add a b ∧ add a b < q
  comm : ∀ a b, 0 ≤ a → a < q → 0 ≤ b → b < q → add a b = add b a
  assoc : ∀ a b c, 0 ≤ a → a < q → 0 ≤ b → b < q → 0 ≤ c → c < q → add (add a b) c = add a (add b c)
  zero : ∀ a, 0 ≤ a → a < q → add 0 a = a

/-- The sum of the coefficients at e. -/
def coef (add : Int → Int → Int) : List Tm → List Int → Int
  | [], _ => 0
  | t :: l, e => if t.e = e then add t.c (coef add l e) else coef add l e
/-- Coefficients within the field. -/
def Within (q : Int) (l : List Tm) : Prop := ∀ t ∈ l, 0 ≤ t.c ∧ t.c < q
/-- Rising exponents of one length, coefficients other than 0. -/
structure Canon (q : Int) (n : Nat) (l : List Tm) : Prop where
  rise : l.Pairwise (fun a b => LtL a.e b.e)
  len : ∀ t ∈ l, t.e.length = n
  c : ∀ t ∈ l, 1 ≤ t.c ∧ t.c < q
theorem Canon.nil (q : Int) (n : Nat) : Canon q n [] := ⟨.nil, by simp, by simp⟩
theorem Canon.within {q : Int} {n : Nat} {l : List Tm} (h : Canon q n l) : Within q l := fun t ht => by have := h.c t ht; omega
theorem Canon.tail {q : Int} {n : Nat} {t : Tm} {l : List Tm} (h : Canon q n (t :: l)) : Canon q n l :=
  ⟨(List.pairwise_cons.1 h.rise).2, fun x hx => h.len x (by simp [hx]), fun x hx => h.c x (by simp [hx])⟩
section
variable {q : Int} {add : Int → Int → Int} {n : Nat}
theorem coef_range (A : AddOk q add) : ∀ {l : List Tm} (e : List Int), Within q l → 0 ≤ coef add l e ∧ coef add l e < q
  | [], e, _ => ⟨Int.le_refl _, A.pos⟩
  | t :: l, e, h => by
    have ih := coef_range A (l := l) e (fun x hx => h x (by simp [hx]))
    have ht := h t (by simp)
    unfold coef
    split
    · exact A.range _ _ ht.1 ht.2 ih.1 ih.2
    · exact ih
theorem coef_none : ∀ {l : List Tm} {e : List Int}, (∀ t ∈ l, t.e ≠ e) → coef add l e = 0
  | [], _, _ => rfl
  | t :: l, e, h => by
    unfold coef
    rw [if_neg (h t (by simp))]
    exact coef_none fun x hx => h x (by simp [hx])
theorem add_zero' (A : AddOk q add) {a : Int} (h0 : 0 ≤ a) (h1 : a < q) : add a 0 = a := by
  rw [A.comm a 0 h0 h1 (Int.le_refl _) A.pos, A.zero a h0 h1]
/-- In a canonical list each coefficient stands as it is. -/
theorem Canon.coef_head (A : AddOk q add) {t : Tm} {l : List Tm} (h : Canon q n (t :: l)) : coef add (t :: l) t.e = t.c := by
  have hc := h.c t (by simp)
  unfold coef
  rw [if_pos rfl, coef_none (fun x hx he => ?_), add_zero' A (by omega) hc.2]
  have := (List.pairwise_cons.1 h.rise).1 x hx
  rw [he] at this
  exact ltL_irrefl _ this
theorem coef_cons_ne {t : Tm} {l : List Tm} {e : List Int} (h : t.e ≠ e) : coef add (t :: l) e = coef add l e := by
  rw [coef, if_neg h]
/-- What is below the first term has coefficient 0. -/
theorem Canon.coef_low {t : Tm} {l : List Tm} (h : Canon q n (t :: l)) {e : List Int} (he : e.length = n) (hlt : LtL e t.e) : coef add (t :: l) e = 0 := by
  refine coef_none fun x hx hxe => ?_
  subst hxe
  rcases List.mem_cons.1 hx with rfl | hx
  · exact ltL_irrefl _ hlt
  · have h1 := (List.pairwise_cons.1 h.rise).1 x hx
    exact ltL_irrefl _ (ltL_trans (by rw [he, h.len t (by simp)]) (by rw [he, h.len t (by simp)]) hlt h1)
/-- Canonical lists with the same coefficients are equal. -/
theorem canon_ext (A : AddOk q add) : ∀ {p r : List Tm}, Canon q n p → Canon q n r → (∀ e, e.length = n → coef add p e = coef add r e) → p = r
  | [], [], _, _, _ => rfl
  | [], t :: r, _, hr, h => by
    have := h t.e (hr.len t (by simp))
    rw [hr.coef_head A] at this
    have := (hr.c t (by simp)).1
    simp [coef] at *
    omega
  | t :: p, [], hp, _, h => by
    have := h t.e (hp.len t (by simp))
    rw [hp.coef_head A] at this
    have := (hp.c t (by simp)).1
    simp [coef] at *
    omega
  | t :: p, u :: r, hp, hr, h => by
    have lt := hp.len t (by simp)
    have lu := hr.len u (by simp)
    have ct := hp.c t (by simp)
    have cu := hr.c u (by simp)
    have e1 : t.e = u.e := by
      rcases ltL_total (a := t.e) (b := u.e) (by rw [lt, lu]) with h1 | h1 | h1
      · have h2 := h t.e lt
        rw [hp.coef_head A, hr.coef_low lt h1] at h2
        omega
      · exact h1
      · have h2 := h u.e lu
        rw [hr.coef_head A, hp.coef_low lu h1] at h2
        omega
    have e2 : t.c = u.c := by
      have h2 := h t.e lt
      rw [hp.coef_head A, e1, hr.coef_head A] at h2
      exact h2
    have e3 : t = u := by
      cases t; cases u
      simp only at e1 e2
      rw [e1, e2]
    subst e3
    rw [canon_ext A hp.tail hr.tail fun e he => ?_]
    by_cases h3 : t.e = e
    · subst h3
      rw [coef_none fun x hx hxe => ?_, coef_none fun x hx hxe => ?_]
      · have := (List.pairwise_cons.1 hr.rise).1 x hx
        rw [hxe] at this
        exact ltL_irrefl _ this
      · have := (List.pairwise_cons.1 hp.rise).1 x hx
        rw [hxe] at this
        exact ltL_irrefl _ this
    · have := h e he
      rwa [coef_cons_ne h3, coef_cons_ne h3] at this

/-- The reference's sum: a merge of two rising lists. -/
def mergeT (add : Int → Int → Int) : Nat → List Tm → List Tm → List Tm
  | 0, _, _ => []
  | _ + 1, [], r => r
  | _ + 1, p, [] => p
  | k + 1, t :: p, u :: r =>
    if cmpL t.e u.e < 0 then t :: mergeT add k p (u :: r)
    else if 0 < cmpL t.e u.e then u :: mergeT add k (t :: p) r
    else if add t.c u.c ≠ 0 then ⟨add t.c u.c, t.e⟩ :: mergeT add k p r else mergeT add k p r
theorem mergeT_spec (A : AddOk q add) : ∀ (k : Nat) {p r : List Tm}, p.length + r.length ≤ k → Canon q n p → Canon q n r →
    Canon q n (mergeT add k p r) ∧ (∀ e, coef add (mergeT add k p r) e = add (coef add p e) (coef add r e)) ∧ (∀ x ∈ mergeT add k p r, (∃ t ∈ p, x.e = t.e) ∨ ∃ u ∈ r, x.e = u.e) := by
  intro k
  induction k with
  | zero =>
    intro p r hk hp hr
    have h1 : p = [] := List.eq_nil_of_length_eq_zero (by omega)
    have h2 : r = [] := List.eq_nil_of_length_eq_zero (by omega)
    subst h1; subst h2
    exact ⟨.nil q n, fun e => by simp [mergeT, coef, A.zero 0 (Int.le_refl _) A.pos], by simp [mergeT]⟩
  | succ k ih =>
    intro p r hk hp hr
    cases p with
    | nil =>
      refine ⟨by simpa [mergeT] using hr, fun e => ?_, fun x hx => .inr ⟨x, by simpa [mergeT] using hx, rfl⟩⟩
      have := coef_range A e hr.within
      simp [mergeT, coef, A.zero _ this.1 this.2]
    | cons t p =>
      cases r with
      | nil =>
        refine ⟨by simpa [mergeT] using hp, fun e => ?_, fun x hx => .inl ⟨x, by simpa [mergeT] using hx, rfl⟩⟩
        have := coef_range A e hp.within
        show coef add (t :: p) e = add (coef add (t :: p) e) 0
        rw [add_zero' A this.1 this.2]
      | cons u r =>
        have lt := hp.len t (by simp)
        have lu := hr.len u (by simp)
        have ct := hp.c t (by simp)
        have cu := hr.c u (by simp)
        simp only [List.length_cons] at hk
        have rp := fun e => coef_range A e hp.within
        have rr := fun e => coef_range A e hr.within
        have rp' := fun e => coef_range A e hp.tail.within
        have rr' := fun e => coef_range A e hr.tail.within
        rw [mergeT]
        by_cases c1 : cmpL t.e u.e < 0
        · rw [if_pos c1]
          obtain ⟨h1, h2, h3⟩ := ih (p := p) (r := u :: r) (by simp only [List.length_cons]; omega) hp.tail hr
          refine ⟨⟨List.pairwise_cons.2 ⟨fun x hx => ?_, h1.rise⟩, ?_, ?_⟩, fun e => ?_, ?_⟩
          · rcases h3 x hx with ⟨y, hy, e⟩ | ⟨y, hy, e⟩
            · rw [e]; exact (List.pairwise_cons.1 hp.rise).1 y hy
            · rw [e]
              rcases List.mem_cons.1 hy with rfl | hy'
              · exact c1
              · exact ltL_trans (by rw [lt, lu]) (by rw [lu, hr.len y hy]) c1 ((List.pairwise_cons.1 hr.rise).1 y hy')
          · intro x hx
            rcases List.mem_cons.1 hx with rfl | hx
            · exact lt
            · exact h1.len x hx
          · intro x hx
            rcases List.mem_cons.1 hx with rfl | hx
            · exact ct
            · exact h1.c x hx
          · rw [coef, h2 e]
            by_cases he : t.e = e
            · rw [if_pos he, ← A.assoc _ _ _ (by omega) ct.2 (rp' e).1 (rp' e).2 (rr e).1 (rr e).2]
              congr 1
              rw [coef, if_pos he]
            · rw [if_neg he, coef_cons_ne he]
          · intro x hx
            rcases List.mem_cons.1 hx with rfl | hx
            · exact .inl ⟨x, by simp, rfl⟩
            · rcases h3 x hx with ⟨y, hy, e⟩ | h
              · exact .inl ⟨y, by simp [hy], e⟩
              · exact .inr h
        · rw [if_neg c1]
          by_cases c2 : 0 < cmpL t.e u.e
          · rw [if_pos c2]
            have c3 : LtL u.e t.e := by unfold LtL; rw [cmpL_neg t.e u.e]; omega
            obtain ⟨h1, h2, h3⟩ := ih (p := t :: p) (r := r) (by simp only [List.length_cons]; omega) hp hr.tail
            refine ⟨⟨List.pairwise_cons.2 ⟨fun x hx => ?_, h1.rise⟩, ?_, ?_⟩, fun e => ?_, ?_⟩
            · rcases h3 x hx with ⟨y, hy, e⟩ | ⟨y, hy, e⟩
              · rw [e]
                rcases List.mem_cons.1 hy with rfl | hy'
                · exact c3
                · exact ltL_trans (by rw [lt, lu]) (by rw [lt, hp.len y hy]) c3 ((List.pairwise_cons.1 hp.rise).1 y hy')
              · rw [e]; exact (List.pairwise_cons.1 hr.rise).1 y hy
            · intro x hx
              rcases List.mem_cons.1 hx with rfl | hx
              · exact lu
              · exact h1.len x hx
            · intro x hx
              rcases List.mem_cons.1 hx with rfl | hx
              · exact cu
              · exact h1.c x hx
            · rw [coef, h2 e]
              by_cases he : u.e = e
              · have ne : t.e ≠ e := fun h => by rw [h, ← he] at c2; rw [cmpL_self] at c2; omega
                rw [if_pos he, ← A.assoc _ _ _ (by omega) cu.2 (rp e).1 (rp e).2 (rr' e).1 (rr' e).2, A.comm u.c _ (by omega) cu.2 (rp e).1 (rp e).2, A.assoc _ _ _ (rp e).1 (rp e).2 (by omega) cu.2 (rr' e).1 (rr' e).2]
                congr 1
                rw [coef, if_pos he]
              · rw [if_neg he, coef_cons_ne he]
            · intro x hx
              rcases List.mem_cons.1 hx with rfl | hx
              · exact .inr ⟨x, by simp, rfl⟩
              · rcases h3 x hx with h | ⟨y, hy, e⟩
                · exact .inl h
                · exact .inr ⟨y, by simp [hy], e⟩
          · rw [if_neg c2]
            have e0 : t.e = u.e := cmpL_eq (by rw [lt, lu]) (by omega)
            obtain ⟨h1, h2, h3⟩ := ih (p := p) (r := r) (by omega) hp.tail hr.tail
            have hs := A.range t.c u.c (by omega) ct.2 (by omega) cu.2
            have hcoef : ∀ e, (if t.e = e then add (add t.c u.c) (coef add (mergeT add k p r) e) else coef add (mergeT add k p r) e) = add (coef add (t :: p) e) (coef add (u :: r) e) := by
              intro e
              rw [h2 e, coef, coef, ← e0]
              by_cases he : t.e = e
              · rw [if_pos he, if_pos he, if_pos he]
                have a1 := rp' e; have a2 := rr' e
                have b1 := A.range _ _ a1.1 a1.2 a2.1 a2.2
                have b2 := A.range _ _ (by omega : 0 ≤ u.c) cu.2 a2.1 a2.2
                rw [A.assoc _ _ _ (by omega) ct.2 (by omega) cu.2 b1.1 b1.2, A.assoc _ _ _ (by omega) ct.2 a1.1 a1.2 b2.1 b2.2]
                congr 1
                rw [← A.assoc _ _ _ (by omega) cu.2 a1.1 a1.2 a2.1 a2.2, A.comm u.c _ (by omega) cu.2 a1.1 a1.2, A.assoc _ _ _ a1.1 a1.2 (by omega) cu.2 a2.1 a2.2]
              · rw [if_neg he, if_neg he, if_neg he]
            have hmem : ∀ x ∈ mergeT add k p r, (∃ y ∈ t :: p, x.e = y.e) ∨ ∃ y ∈ u :: r, x.e = y.e := fun x hx => by
              rcases h3 x hx with ⟨y, hy, e⟩ | ⟨y, hy, e⟩
              · exact .inl ⟨y, by simp [hy], e⟩
              · exact .inr ⟨y, by simp [hy], e⟩
            by_cases c4 : add t.c u.c ≠ 0
            · rw [if_pos c4]
              refine ⟨⟨List.pairwise_cons.2 ⟨fun x hx => ?_, h1.rise⟩, ?_, ?_⟩, fun e => ?_, ?_⟩
              · rcases h3 x hx with ⟨y, hy, e⟩ | ⟨y, hy, e⟩
                · rw [e]; exact (List.pairwise_cons.1 hp.rise).1 y hy
                · rw [e]; show LtL t.e y.e; rw [e0]; exact (List.pairwise_cons.1 hr.rise).1 y hy
              · intro x hx
                rcases List.mem_cons.1 hx with rfl | hx
                · exact lt
                · exact h1.len x hx
              · intro x hx
                rcases List.mem_cons.1 hx with rfl | hx
                · show 1 ≤ add t.c u.c ∧ add t.c u.c < q
                  omega
                · exact h1.c x hx
              · rw [← hcoef e]; rfl
              · intro x hx
                rcases List.mem_cons.1 hx with rfl | hx
                · exact .inl ⟨t, by simp, rfl⟩
                · exact hmem x hx
            · rw [if_neg c4]
              have c5 : add t.c u.c = 0 := by omega
              refine ⟨h1, fun e => ?_, hmem⟩
              rw [← hcoef e, c5]
              have a1 := rp' e; have a2 := rr' e
              have b1 := A.range _ _ a1.1 a1.2 a2.1 a2.2
              rw [h2 e, A.zero _ b1.1 b1.2]
              split <;> rfl

/-- The sum of several lists' coefficients at e. -/
def sumC (add : Int → Int → Int) : List (List Tm) → List Int → Int
  | [], _ => 0
  | p :: l, e => add (coef add p e) (sumC add l e)
theorem sumC_range (A : AddOk q add) : ∀ {l : List (List Tm)} (e : List Int), (∀ p ∈ l, Within q p) → 0 ≤ sumC add l e ∧ sumC add l e < q
  | [], e, _ => ⟨Int.le_refl _, A.pos⟩
  | p :: l, e, h => by
    have ih := sumC_range A (l := l) e (fun x hx => h x (by simp [hx]))
    have hp := coef_range A e (h p (by simp))
    exact A.range _ _ hp.1 hp.2 ih.1 ih.2
theorem sumC_append (A : AddOk q add) : ∀ {l m : List (List Tm)} (e : List Int), (∀ p ∈ l, Within q p) → (∀ p ∈ m, Within q p) → sumC add (l ++ m) e = add (sumC add l e) (sumC add m e)
  | [], m, e, _, hm => by
    have := sumC_range A e hm
    show sumC add m e = add 0 _
    rw [A.zero _ this.1 this.2]
  | p :: l, m, e, h, hm => by
    have hp := coef_range A e (h p (by simp))
    have h1 := sumC_range A (l := l) e (fun x hx => h x (by simp [hx]))
    have h2 := sumC_range A e hm
    show add (coef add p e) (sumC add (l ++ m) e) = add (add (coef add p e) (sumC add l e)) (sumC add m e)
    rw [sumC_append A (l := l) e (fun x hx => h x (by simp [hx])) hm, A.assoc _ _ _ hp.1 hp.2 h1.1 h1.2 h2.1 h2.2]
/-- The reference's sum of a list of polynomials, by halves. -/
def totalT (add : Int → Int → Int) : Nat → List (List Tm) → List Tm
  | 0, _ => []
  | k + 1, l =>
    if l.length = 0 then [] else if l.length = 1 then l.headD [] else
      mergeT add ((totalT add k (l.take (l.length / 2))).length + (totalT add k (l.drop (l.length / 2))).length) (totalT add k (l.take (l.length / 2))) (totalT add k (l.drop (l.length / 2)))
theorem totalT_spec (A : AddOk q add) : ∀ (k : Nat) {l : List (List Tm)}, l.length ≤ k → (∀ p ∈ l, Canon q n p) → Canon q n (totalT add k l) ∧ ∀ e, coef add (totalT add k l) e = sumC add l e := by
  intro k
  induction k with
  | zero =>
    intro l hk _
    have : l = [] := List.eq_nil_of_length_eq_zero (by omega)
    subst this
    exact ⟨.nil q n, fun e => rfl⟩
  | succ k ih =>
    intro l hk h
    rw [totalT]
    by_cases h0 : l.length = 0
    · rw [if_pos h0]
      have : l = [] := List.eq_nil_of_length_eq_zero h0
      subst this
      exact ⟨.nil q n, fun e => rfl⟩
    · rw [if_neg h0]
      by_cases h1 : l.length = 1
      · rw [if_pos h1]
        obtain ⟨p, rfl⟩ := List.length_eq_one_iff.1 h1
        refine ⟨h p (by simp), fun e => ?_⟩
        have := coef_range A e (h p (by simp)).within
        show coef add p e = add (coef add p e) 0
        rw [add_zero' A this.1 this.2]
      · rw [if_neg h1]
        obtain ⟨a1, a2⟩ := ih (l := l.take (l.length / 2)) (by rw [List.length_take]; omega) (fun p hp => h p (List.mem_of_mem_take hp))
        obtain ⟨b1, b2⟩ := ih (l := l.drop (l.length / 2)) (by rw [List.length_drop]; omega) (fun p hp => h p (List.mem_of_mem_drop hp))
        obtain ⟨c1, c2, _⟩ := mergeT_spec A _ (Nat.le_refl _) a1 b1
        refine ⟨c1, fun e => ?_⟩
        rw [c2 e, a2 e, b2 e, ← sumC_append A e (fun p hp => (h p (List.mem_of_mem_take hp)).within) (fun p hp => (h p (List.mem_of_mem_drop hp)).within), List.take_append_drop]
/-- Single terms: their sum is that of the list. -/
theorem sumC_single (A : AddOk q add) : ∀ {l : List Tm} (e : List Int), Within q l → sumC add (l.map fun t => [t]) e = coef add l e
  | [], _, _ => rfl
  | t :: l, e, h => by
    have ht := h t (by simp)
    have hl : Within q l := fun x hx => h x (by simp [hx])
    have r := coef_range A e hl
    show add (coef add [t] e) (sumC add (l.map fun t => [t]) e) = coef add (t :: l) e
    rw [sumC_single A e hl]
    by_cases he : t.e = e
    · have h1 : coef add [t] e = t.c := by rw [coef, if_pos he]; exact add_zero' A ht.1 ht.2
      have h2 : coef add (t :: l) e = add t.c (coef add l e) := by rw [coef, if_pos he]
      rw [h1, h2]
    · have h1 : coef add [t] e = 0 := by rw [coef, if_neg he]; rfl
      rw [h1, coef_cons_ne he, A.zero _ r.1 r.2]
/-- The program's sum: one term after the other. -/
def putC (add : Int → Int → Int) (s : Int) : List Tm → List Int → Int
  | [], _ => s
  | t :: l, e => putC add (if t.e = e then add s t.c else s) l e
theorem putC_coef (A : AddOk q add) : ∀ {l : List Tm} {s : Int} (e : List Int), Within q l → 0 ≤ s → s < q → putC add s l e = add s (coef add l e)
  | [], s, e, _, h0, h1 => by show s = add s 0; rw [add_zero' A h0 h1]
  | t :: l, s, e, h, h0, h1 => by
    have ht := h t (by simp)
    have hl : Within q l := fun x hx => h x (by simp [hx])
    have r := coef_range A e hl
    unfold putC coef
    by_cases he : t.e = e
    · rw [if_pos he, if_pos he]
      have := A.range _ _ h0 h1 ht.1 ht.2
      rw [putC_coef A e hl this.1 this.2, A.assoc _ _ _ h0 h1 ht.1 ht.2 r.1 r.2]
    · rw [if_neg he, if_neg he]
      exact putC_coef A e hl h0 h1
/-- What the program returns equals what the reference returns: both are canonical and have the same coefficients. -/
theorem sum_same (A : AddOk q add) {l out : List Tm} (hw : ∀ t ∈ l, t.e.length = n ∧ 1 ≤ t.c ∧ t.c < q) (ho : Canon q n out) (hc : ∀ e, e.length = n → coef add out e = putC add 0 l e) : out = totalT add l.length (l.map fun t => [t]) := by
  have hW : Within q l := fun t ht => by have := hw t ht; omega
  obtain ⟨h1, h2⟩ := totalT_spec (n := n) A l.length (l := l.map fun t => [t]) (by simp) (fun p hp => by
    obtain ⟨t, ht, rfl⟩ := List.mem_map.1 hp
    exact ⟨List.pairwise_singleton _ _, fun x hx => by rw [List.mem_singleton.1 hx]; exact (hw t ht).1, fun x hx => by rw [List.mem_singleton.1 hx]; exact (hw t ht).2⟩)
  refine canon_ext A ho h1 fun e he => ?_
  have := coef_range A e hW
  rw [hc e he, h2 e, sumC_single A e hW, putC_coef A e hW (Int.le_refl _) A.pos, A.zero _ this.1 this.2]
end

/-- Residues. -/
theorem add_mod_ok {p : Int} (hp : 0 < p) : AddOk p (fun a b => (a + b) % p) where
  pos := hp
  range := fun a b _ _ _ _ => ⟨Int.emod_nonneg _ (by omega), Int.emod_lt_of_pos _ hp⟩
  comm := fun a b _ _ _ _ => by rw [Int.add_comm]
  assoc := fun a b c _ _ _ _ _ _ => by simp only [Int.emod_add_emod, Int.add_emod_emod, Int.add_assoc]
  zero := fun a h0 h1 => by simp only [Int.zero_add]; exact Int.emod_eq_of_lt h0 h1
/-- The bits' sum, on numbers below 2^m. -/
def xorI (a b : Int) : Int := ((a.toNat ^^^ b.toNat : Nat) : Int)
theorem xor_ok (m : Nat) : AddOk ((2 ^ m : Nat) : Int) xorI where
  pos := by have := Nat.two_pow_pos m; omega
  range := fun a b h0 h1 h2 h3 => by
    have := Nat.xor_lt_two_pow (x := a.toNat) (y := b.toNat) (n := m) (by omega) (by omega)
    unfold xorI
    omega
  comm := fun a b _ _ _ _ => by unfold xorI; rw [Nat.xor_comm]
  assoc := fun a b c _ _ _ _ _ _ => by unfold xorI; simp only [Int.toNat_natCast, Nat.xor_assoc]
  zero := fun a h0 h1 => by unfold xorI; simp; omega
end Go.Proofs.YtikfeemmjfoffaaGreatDoor

/- Sums of terms in a map: what a table of terms holds after one term upon the other, and its rising list without zeros. -/
namespace Go.Proofs.YtikfeemmjfoffaaGreatDoor

section
variable {q : Int} {add : Int → Int → Int} {n : Nat}
/-- A term is put upon a table: the program's put. -/
def mput (add : Int → Int → Int) : List Tm → Tm → List Tm
  | [], t => [⟨add 0 t.c, t.e⟩]
  | u :: M, t => if u.e = t.e then ⟨add u.c t.c, u.e⟩ :: M else u :: mput add M t
/-- The coefficient that a table holds at e. -/
def cf : List Tm → List Int → Int
  | [], _ => 0
  | u :: M, e => if u.e = e then u.c else cf M e
theorem mput_cf : ∀ (M : List Tm) (t : Tm) (e : List Int), cf (mput add M t) e = if t.e = e then add (cf M e) t.c else cf M e
  | [], t, e => by simp [mput, cf]
  | u :: M, t, e => by
    unfold mput
    by_cases h : u.e = t.e
    · rw [if_pos h]
      by_cases he : u.e = e
      · simp [cf, he, ← h]
      · have : t.e ≠ e := by rw [← h]; exact he
        simp [cf, he, this]
    · rw [if_neg h]
      by_cases he : u.e = e
      · have : t.e ≠ e := fun h2 => h (by rw [he, h2])
        simp [cf, he, this]
      · simp only [cf, if_neg he]
        exact mput_cf M t e
theorem foldl_cf : ∀ (l : List Tm) (M : List Tm) (e : List Int), cf (l.foldl (mput add) M) e = putC add (cf M e) l e
  | [], _, _ => rfl
  | t :: l, M, e => by
    rw [List.foldl_cons, foldl_cf l (mput add M t) e, mput_cf]
    rfl
/-- No exponents twice. -/
def Apart (M : List Tm) : Prop := M.Pairwise fun a b => a.e ≠ b.e
theorem mput_mem : ∀ {M : List Tm} {t x : Tm}, x ∈ mput add M t → x.e = t.e ∨ x ∈ M
  | [], t, x, h => by
    simp only [mput, List.mem_singleton] at h
    rw [h]; exact .inl rfl
  | u :: M, t, x, h => by
    unfold mput at h
    by_cases he : u.e = t.e
    · rw [if_pos he] at h
      rcases List.mem_cons.1 h with rfl | h
      · exact .inl he
      · exact .inr (List.mem_cons_of_mem _ h)
    · rw [if_neg he] at h
      rcases List.mem_cons.1 h with rfl | h
      · exact .inr List.mem_cons_self
      · rcases mput_mem h with h | h
        · exact .inl h
        · exact .inr (List.mem_cons_of_mem _ h)
theorem mput_apart : ∀ {M : List Tm} {t : Tm}, Apart M → Apart (mput add M t)
  | [], t, _ => List.pairwise_singleton _ _
  | u :: M, t, h => by
    have h1 := List.pairwise_cons.1 h
    unfold mput
    by_cases he : u.e = t.e
    · rw [if_pos he]
      exact List.pairwise_cons.2 ⟨h1.1, h1.2⟩
    · rw [if_neg he]
      refine List.pairwise_cons.2 ⟨fun x hx => ?_, mput_apart h1.2⟩
      rcases mput_mem hx with h2 | h2
      · rw [h2]; exact he
      · exact h1.1 x h2
theorem mput_within (A : AddOk q add) : ∀ {M : List Tm} {t : Tm}, Within q M → 0 ≤ t.c → t.c < q → Within q (mput add M t)
  | [], t, _, h0, h1 => fun x hx => by
    simp only [mput, List.mem_singleton] at hx
    rw [hx]
    exact A.range _ _ (Int.le_refl _) A.pos h0 h1
  | u :: M, t, h, h0, h1 => by
    have hu := h u (by simp)
    have hM : Within q M := fun x hx => h x (by simp [hx])
    unfold mput
    by_cases he : u.e = t.e
    · rw [if_pos he]
      intro x hx
      rcases List.mem_cons.1 hx with rfl | hx
      · exact A.range _ _ hu.1 hu.2 h0 h1
      · exact hM x hx
    · rw [if_neg he]
      intro x hx
      rcases List.mem_cons.1 hx with rfl | hx
      · exact hu
      · exact mput_within A hM h0 h1 x hx
/-- The table behind a row of terms. -/
theorem table_spec (A : AddOk q add) : ∀ (l M : List Tm), (∀ t ∈ l, t.e.length = n ∧ 0 ≤ t.c ∧ t.c < q) → Apart M → Within q M → (∀ t ∈ M, t.e.length = n) →
    Apart (l.foldl (mput add) M) ∧ Within q (l.foldl (mput add) M) ∧ ∀ t ∈ l.foldl (mput add) M, t.e.length = n
  | [], _, _, h1, h2, h3 => ⟨h1, h2, h3⟩
  | t :: l, M, h, h1, h2, h3 => by
    have ht := h t (by simp)
    rw [List.foldl_cons]
    refine table_spec A l _ (fun x hx => h x (by simp [hx])) (mput_apart h1) (mput_within A h2 ht.2.1 ht.2.2) (fun x hx => ?_)
    rcases mput_mem hx with h4 | h4
    · rw [h4]; exact ht.1
    · exact h3 x h4
/-- Where no exponents stand twice, the sum of coefficients is the one that stands there. -/
theorem coef_cf (A : AddOk q add) : ∀ {M : List Tm} (e : List Int), Apart M → Within q M → coef add M e = cf M e
  | [], _, _, _ => rfl
  | u :: M, e, h, hw => by
    have h1 := List.pairwise_cons.1 h
    have hu := hw u (by simp)
    by_cases he : u.e = e
    · rw [coef, if_pos he, cf, if_pos he, coef_none (fun x hx hxe => h1.1 x hx (by rw [he, hxe])), add_zero' A hu.1 hu.2]
    · rw [coef, if_neg he, cf, if_neg he, coef_cf A e h1.2 (fun x hx => hw x (by simp [hx]))]
/-- Zeros don't count. -/
theorem coef_filter (A : AddOk q add) : ∀ {M : List Tm} (e : List Int), Within q M → coef add (M.filter fun t => t.c ≠ 0) e = coef add M e
  | [], _, _ => rfl
  | u :: M, e, hw => by
    have hu := hw u (by simp)
    have hM : Within q M := fun x hx => hw x (by simp [hx])
    have r := coef_range A e hM
    have ih := coef_filter A (M := M) e hM
    by_cases h0 : u.c = 0
    · rw [List.filter_cons_of_neg (by simp [h0]), ih]
      by_cases he : u.e = e
      · rw [coef, if_pos he, h0, A.zero _ r.1 r.2]
      · rw [coef, if_neg he]
    · rw [List.filter_cons_of_pos (by simp [h0])]
      simp only [coef, ih]
/-- The order of the terms does not count. -/
theorem coef_perm (A : AddOk q add) {l m : List Tm} (h : l.Perm m) (e : List Int) : Within q l → coef add l e = coef add m e := by
  induction h with
  | nil => intro _; rfl
  | cons x h ih =>
    intro hw
    simp only [coef, ih (fun y hy => hw y (by simp [hy]))]
  | swap x y l =>
    intro hw
    have hx := hw x (by simp)
    have hy := hw y (by simp)
    have r := coef_range A e (l := l) (fun z hz => hw z (by simp [hz]))
    simp only [coef]
    by_cases h1 : x.e = e
    · by_cases h2 : y.e = e
      · rw [if_pos h1, if_pos h2, ← A.assoc _ _ _ hy.1 hy.2 hx.1 hx.2 r.1 r.2, A.comm y.c x.c hy.1 hy.2 hx.1 hx.2, A.assoc _ _ _ hx.1 hx.2 hy.1 hy.2 r.1 r.2]
        simp [h1, h2]
      · simp [h1, h2]
    · simp [h1]
  | trans h1 h2 ih1 ih2 =>
    intro hw
    rw [ih1 hw, ih2 (fun x hx => hw x (h1.mem_iff.2 hx))]
/-- What comes of the table: the terms other than 0, rising. -/
theorem table_out (A : AddOk q add) {l out : List Tm} (hw : ∀ t ∈ l, t.e.length = n ∧ 1 ≤ t.c ∧ t.c < q) (hp : out.Perm ((l.foldl (mput add) []).filter fun t => t.c ≠ 0)) (hs : out.Pairwise fun a b => ¬ LtL b.e a.e) :
    out = totalT add l.length (l.map fun t => [t]) := by
  obtain ⟨h1, h2, h3⟩ := table_spec (n := n) A l [] (fun t ht => by have := hw t ht; omega) .nil (by simp [Within]) (by simp)
  have hsub : ∀ x ∈ out, x ∈ l.foldl (mput add) [] ∧ x.c ≠ 0 := fun x hx => by simpa using hp.mem_iff.1 hx
  have hwo : Within q out := fun x hx => h2 x (hsub x hx).1
  have ha : Apart ((l.foldl (mput add) []).filter fun t => t.c ≠ 0) := h1.filter _
  have hao : Apart out := hp.symm.pairwise ha (fun h => Ne.symm h)
  have hlen : ∀ x ∈ out, x.e.length = n := fun x hx => h3 x (hsub x hx).1
  have hrise : out.Pairwise fun a b => LtL a.e b.e := by
    have := hs.and hao
    refine List.Pairwise.imp_of_mem (fun {a b} ha hb h => ?_) this
    rcases ltL_total (a := a.e) (b := b.e) (by rw [hlen a ha, hlen b hb]) with h5 | h5 | h5
    · exact h5
    · exact absurd h5 h.2
    · exact absurd h5 h.1
  have hc : Canon q n out := ⟨hrise, hlen, fun x hx => by have := hwo x hx; have := (hsub x hx).2; omega⟩
  refine sum_same A hw hc fun e he => ?_
  rw [coef_perm A hp e hwo, coef_filter A e h2, coef_cf A e h1 h2, foldl_cf]
  rfl
end

/-! ### The keys -/
/-- Exponents as bytes, two each. -/
def keyB : List Int → List UInt8
  | [] => []
  | x :: l => UInt8.ofNat (x.toNat / 256) :: UInt8.ofNat (x.toNat % 256) :: keyB l
theorem keyB_inj : ∀ {a b : List Int}, (∀ x ∈ a, 0 ≤ x ∧ x ≤ 65535) → (∀ x ∈ b, 0 ≤ x ∧ x ≤ 65535) → keyB a = keyB b → a = b
  | [], [], _, _, _ => rfl
  | [], _ :: _, _, _, h => by cases h
  | _ :: _, [], _, _, h => by cases h
  | x :: a, y :: b, ha, hb, h => by
    have hx := ha x (by simp)
    have hy := hb y (by simp)
    simp only [keyB, List.cons.injEq] at h
    have e1 : x.toNat / 256 = y.toNat / 256 := by
      have := congrArg UInt8.toNat h.1
      rwa [UInt8.toNat_ofNat_of_lt' (show x.toNat / 256 < 256 by omega), UInt8.toNat_ofNat_of_lt' (show y.toNat / 256 < 256 by omega)] at this
    have e2 : x.toNat % 256 = y.toNat % 256 := by
      have := congrArg UInt8.toNat h.2.1
      rwa [UInt8.toNat_ofNat_of_lt' (show x.toNat % 256 < 256 by omega), UInt8.toNat_ofNat_of_lt' (show y.toNat % 256 < 256 by omega)] at this
    have e3 : x = y := by omega
    rw [e3, keyB_inj (fun z hz => ha z (by simp [hz])) (fun z hz => hb z (by simp [hz])) h.2.2]
end Go.Proofs.YtikfeemmjfoffaaGreatDoor
