/- Reduced polynomials with the same values are equal; reducing keeps the values; plain. -/
import Derived.Test.YtnjmpjdampdmmaaDoorA3
set_option linter.unusedVariables false
set_option linter.unusedSimpArgs false
set_option linter.unusedSectionVars false
namespace Go.Proofs.YtnjmpjdampdmmaaDoor
section
variable {P M : Int} (ok : okF P M = true)
include ok
/-! ### Cancelling -/
theorem a_cancel {a b c : Int} (ha : inF P M a) (hb : inF P M b) (hc : inF P M c) (h : addF P M a c = addF P M b c) : a = b := by
  have hn := (fldF ok).nrange c hc.1 hc.2
  have e : ∀ {x : Int}, inF P M x → addF P M (addF P M x c) (negF P M c) = x := fun hx => by
    rw [aA ok hx hc hn, aN ok hc, aZr ok hx]
  rw [← e ha, h, e hb]
theorem a_cancel_l {a b c : Int} (ha : inF P M a) (hb : inF P M b) (hc : inF P M c) (h : addF P M c a = addF P M c b) : a = b := by
  rw [aC ok hc ha, aC ok hc hb] at h
  exact a_cancel ok ha hb hc h
theorem m_cancel {a b c : Int} (ha : inF P M a) (hb : inF P M b) (hc : inF P M c) (h0 : c ≠ 0) (h : mulF P M c a = mulF P M c b) : a = b := by
  have hn := (fldF ok).nrange b hb.1 hb.2
  have h1 : mulF P M c (addF P M a (negF P M b)) = 0 := by
    rw [mDl ok ha hn hc, h, ← mDl ok hb hn hc, aN ok hb, m0r ok hc]
  have h2 := addF_in ok ha hn
  rcases (fldF ok).nz _ _ hc.1 hc.2 h2.1 h2.2 h1 with h3 | h3
  · exact absurd h3 h0
  · exact a_cancel ok ha hb hn (by rw [h3, aN ok hb])
/-! ### Polynomials in one variable, by Horner's rule -/
omit ok in
def hn (P M x : Int) : List Int → Int
  | [] => 0
  | c :: cs => addF P M c (mulF P M x (hn P M x cs))
omit ok in
def Alls (P M : Int) (l : List Int) : Prop := ∀ x ∈ l, inF P M x
omit ok in
theorem Alls.tail {c : Int} {l : List Int} (h : Alls P M (c :: l)) : Alls P M l := fun x hx => h x (by simp [hx])
omit ok in
theorem Alls.head {c : Int} {l : List Int} (h : Alls P M (c :: l)) : inF P M c := h c (by simp)
theorem hn_in {x : Int} (hx : inF P M x) : ∀ {l : List Int}, Alls P M l → inF P M (hn P M x l)
  | [], _ => zero_in ok
  | c :: l, h => addF_in ok h.head (mulF_in ok hx (hn_in hx h.tail))
omit ok in
/-- The quotient by a linear factor. -/
def sdv (P M a : Int) : List Int → List Int
  | [] => []
  | d :: ds => hn P M a (d :: ds) :: sdv P M a ds
omit ok in
theorem sdv_len {a : Int} : ∀ l : List Int, (sdv P M a l).length = l.length
  | [] => rfl
  | d :: ds => by simp [sdv, sdv_len ds]
theorem sdv_in {a : Int} (ha : inF P M a) : ∀ {l : List Int}, Alls P M l → Alls P M (sdv P M a l)
  | [], _ => fun x hx => by simp [sdv] at hx
  | d :: ds, h => fun x hx => by
    rcases List.mem_cons.1 hx with rfl | hx
    · exact hn_in ok ha h
    · exact sdv_in ha h.tail x hx
theorem hn_sd {x a s : Int} (hx : inF P M x) (ha : inF P M a) (hs : inF P M s) (e : addF P M a s = x) : ∀ (cs : List Int) (c : Int), Alls P M (c :: cs) → hn P M x (c :: cs) = addF P M (hn P M a (c :: cs)) (mulF P M s (hn P M x (sdv P M a cs)))
  | [], c, h => by
    show addF P M c (mulF P M x 0) = addF P M (addF P M c (mulF P M a 0)) (mulF P M s 0)
    rw [m0r ok hx, m0r ok ha, m0r ok hs, aZr ok h.head, aZr ok h.head]
  | d :: ds, c, h => by
    have ih := hn_sd hx ha hs e ds d h.tail
    have hA := hn_in ok ha h.tail
    have hG := hn_in ok hx (sdv_in ok ha h.tail.tail)
    have hc := h.head
    show addF P M c (mulF P M x (hn P M x (d :: ds))) = addF P M (addF P M c (mulF P M a (hn P M a (d :: ds)))) (mulF P M s (addF P M (hn P M a (d :: ds)) (mulF P M x (hn P M x (sdv P M a ds)))))
    rw [ih]
    generalize hn P M a (d :: ds) = A at *
    generalize hn P M x (sdv P M a ds) = G at *
    have hsG := mulF_in ok hs hG
    have hxG := mulF_in ok hx hG
    rw [mDl ok hA hsG hx, mDl ok hA hxG hs, ← mA ok hx hs hG, ← mA ok hs hx hG, mC ok hx hs]
    have haA := mulF_in ok ha hA
    have hsA := mulF_in ok hs hA
    have hT := mulF_in ok (mulF_in ok hs hx) hG
    have e2 : mulF P M x A = addF P M (mulF P M a A) (mulF P M s A) := by rw [← e, mD ok ha hs hA]
    rw [e2, aA ok hc haA (addF_in ok hsA hT), aA ok haA hsA hT]
theorem sd_inj {a : Int} (ha : inF P M a) : ∀ {u v : List Int}, u.length = v.length → Alls P M u → Alls P M v → sdv P M a u = sdv P M a v → u = v
  | [], [], _, _, _, _ => rfl
  | [], _ :: _, h, _, _, _ => by simp at h
  | _ :: _, [], h, _, _, _ => by simp at h
  | d :: ds, d' :: ds', hl, hu, hv, h => by
    simp only [sdv, List.cons.injEq] at h
    have ih := sd_inj ha (u := ds) (v := ds') (by simpa using hl) hu.tail hv.tail h.2
    subst ih
    have h1 := h.1
    have := a_cancel ok hu.head hv.head (mulF_in ok ha (hn_in ok ha hu.tail)) h1
    rw [this]
theorem hn_inj : ∀ (m : Nat) {u v : List Int}, u.length = m → v.length = m → Alls P M u → Alls P M v → (m : Int) ≤ ordF P M → (∀ x : Int, 0 ≤ x → x < m → hn P M x u = hn P M x v) → u = v
  | 0, u, v, hu, hv, _, _, _, _ => by rw [List.eq_nil_of_length_eq_zero hu, List.eq_nil_of_length_eq_zero hv]
  | m + 1, [], _, hu, _, _, _, _, _ => by simp at hu
  | m + 1, _ :: _, [], _, hv, _, _, _, _ => by simp at hv
  | m + 1, c :: cs, d :: ds, hu, hv, au, av, hm, h => by
    have ha : inF P M (m : Int) := ⟨by omega, by omega⟩
    have hA := h (m : Int) (by omega) (by omega)
    have hnA := (fldF ok).nrange _ ha.1 ha.2
    have ih := hn_inj m (u := sdv P M m cs) (v := sdv P M m ds) (by rw [sdv_len]; simpa using hu) (by rw [sdv_len]; simpa using hv) (sdv_in ok ha au.tail) (sdv_in ok ha av.tail) (by omega) (fun x h0 hx => by
      have hxi : inF P M x := ⟨h0, by omega⟩
      have hs := addF_in ok hxi hnA
      have e : addF P M (m : Int) (addF P M x (negF P M m)) = x := by
        rw [aC ok ha hs, aA ok hxi hnA ha, aC ok hnA ha, aN ok ha, aZr ok hxi]
      have s0 : addF P M x (negF P M m) ≠ 0 := fun h5 => by
        rw [h5, aZr ok ha] at e
        omega
      have h1 := h x h0 (by omega)
      rw [hn_sd ok hxi ha hs e cs c au, hn_sd ok hxi ha hs e ds d av, hA] at h1
      have i1 := hn_in ok hxi (sdv_in ok ha au.tail)
      have i2 := hn_in ok hxi (sdv_in ok ha av.tail)
      exact m_cancel ok i1 i2 hs s0 (a_cancel_l ok (mulF_in ok hs i1) (mulF_in ok hs i2) (hn_in ok ha av) h1))
    have e2 := sd_inj ok ha (by simp only [List.length_cons] at hu hv; omega) au.tail av.tail ih
    subst e2
    rw [a_cancel ok au.head av.head (mulF_in ok ha (hn_in ok ha au.tail)) hA]
/-! ### The first variable -/
theorem hn_snoc {x : Int} (hx : inF P M x) : ∀ (l : List Int) (c : Int), Alls P M l → inF P M c → hn P M x (l ++ [c]) = addF P M (hn P M x l) (mulF P M (pwI (mulF P M) x l.length) c)
  | [], c, _, hc => by
    show addF P M c (mulF P M x 0) = addF P M 0 (mulF P M 1 c)
    rw [m0r ok hx, aZr ok hc, m1 ok hc, aZ ok hc]
  | d :: l, c, h, hc => by
    have ih := hn_snoc hx l c h.tail hc
    have i1 := hn_in ok hx h.tail
    have i2 := pwI_in ok hx l.length
    show addF P M d (mulF P M x (hn P M x (l ++ [c]))) = addF P M (addF P M d (mulF P M x (hn P M x l))) (mulF P M (mulF P M (pwI (mulF P M) x l.length) x) c)
    rw [ih, mDl ok i1 (mulF_in ok i2 hc) hx, aA ok h.head (mulF_in ok hx i1) (mulF_in ok (mulF_in ok i2 hx) hc), ← mA ok hx i2 hc, mC ok hx i2]
omit ok in
/-- A sum of powers. -/
def sp (P M x : Int) (f : Nat → Int) : Nat → Int
  | 0 => 0
  | m + 1 => addF P M (sp P M x f m) (mulF P M (pwI (mulF P M) x m) (f m))
theorem sp_in {x : Int} (hx : inF P M x) {f : Nat → Int} (hf : ∀ j, inF P M (f j)) : ∀ m, inF P M (sp P M x f m)
  | 0 => zero_in ok
  | m + 1 => addF_in ok (sp_in hx hf m) (mulF_in ok (pwI_in ok hx m) (hf m))
theorem sp_hn {x : Int} (hx : inF P M x) {f : Nat → Int} (hf : ∀ j, inF P M (f j)) : ∀ m, sp P M x f m = hn P M x ((List.range m).map f)
  | 0 => rfl
  | m + 1 => by
    rw [List.range_succ, List.map_append, List.map_cons, List.map_nil, hn_snoc ok hx _ _ (fun y hy => by obtain ⟨j, _, rfl⟩ := List.mem_map.1 hy; exact hf j) (hf m), List.length_map, List.length_range, ← sp_hn hx hf m]
    rfl
theorem sp_zero {x : Int} (hx : inF P M x) : ∀ m, sp P M x (fun _ => 0) m = 0
  | 0 => rfl
  | m + 1 => by
    show addF P M (sp P M x (fun _ => 0) m) (mulF P M _ 0) = 0
    rw [sp_zero hx m, m0r ok (pwI_in ok hx m), aZ ok (zero_in ok)]
theorem sp_same {x : Int} {f g : Nat → Int} : ∀ m, (∀ j, j < m → f j = g j) → sp P M x f m = sp P M x g m
  | 0, _ => rfl
  | m + 1, h => by
    show addF P M (sp P M x f m) (mulF P M _ (f m)) = addF P M (sp P M x g m) (mulF P M _ (g m))
    rw [sp_same m (fun j hj => h j (by omega)), h m (by omega)]
theorem sp_upd {x v : Int} (hx : inF P M x) (hv : inF P M v) {g : Nat → Int} (hg : ∀ j, inF P M (g j)) (j0 : Nat) : ∀ m, j0 < m → sp P M x (fun j => if j = j0 then addF P M v (g j) else g j) m = addF P M (mulF P M (pwI (mulF P M) x j0) v) (sp P M x g m)
  | 0, h => by omega
  | m + 1, h => by
    have i1 := sp_in ok hx hg m
    have i2 := pwI_in ok hx m
    by_cases e : m = j0
    · subst e
      show addF P M (sp P M x _ m) (mulF P M _ (if m = m then addF P M v (g m) else g m)) = addF P M _ (addF P M (sp P M x g m) (mulF P M _ (g m)))
      rw [if_pos rfl, sp_same ok (g := g) m (fun j hj => if_neg (by omega)), mDl ok hv (hg m) i2]
      have a1 := mulF_in ok i2 hv
      have a2 := mulF_in ok i2 (hg m)
      rw [← aA ok i1 a1 a2, aC ok i1 a1, aA ok a1 i1 a2]
    · have hm : j0 < m := by omega
      show addF P M (sp P M x _ m) (mulF P M _ (if m = j0 then addF P M v (g m) else g m)) = addF P M _ (addF P M (sp P M x g m) (mulF P M _ (g m)))
      rw [if_neg e, sp_upd hx hv hg j0 m hm]
      have a2 := mulF_in ok i2 (hg m)
      rw [aA ok (mulF_in ok (pwI_in ok hx j0) hv) i1 a2]
omit ok in
/-- The terms whose first exponent is j, without it. -/
def sub1 (j : Nat) : List Tm → List Tm
  | [] => []
  | t :: l => if (ia t.e 0).toNat = j then ⟨t.c, t.e.tail⟩ :: sub1 j l else sub1 j l
omit ok in
/-- Terms in n variables with exponents below the order. -/
def Low (P M : Int) (n : Nat) (l : List Tm) : Prop := ∀ t ∈ l, inF P M t.c ∧ t.e.length = n ∧ ∀ x ∈ t.e, 0 ≤ x ∧ x < ordF P M
omit ok in
theorem Low.tail {n : Nat} {t : Tm} {l : List Tm} (h : Low P M n (t :: l)) : Low P M n l := fun x hx => h x (by simp [hx])
omit ok in
theorem Low.first {n : Nat} (j : Nat) : ∀ {l : List Tm}, Low P M (n + 1) l → Low P M n (sub1 j l)
  | [], _ => fun x hx => by simp [sub1] at hx
  | t :: l, h => by
    have ih := Low.first j h.tail
    have ht := h t (by simp)
    unfold sub1
    split
    · intro x hx
      rcases List.mem_cons.1 hx with rfl | hx
      · exact ⟨ht.1, by simp [ht.2.1], fun y hy => ht.2.2 y (List.mem_of_mem_tail hy)⟩
      · exact ih x hx
    · exact ih
omit ok in
theorem Low.ev {n : Nat} {l : List Tm} {at' : List Int} (h : Low P M n l) (e : at'.length = n) : EvOk P M at' l := fun t ht => ⟨(h t ht).1, by rw [(h t ht).2.1, e]⟩
theorem monTo_scale {b c : Int} (hb : inF P M b) (hc : inF P M c) {e at' : List Int} (ha : ∀ x ∈ at', inF P M x) : ∀ k, k ≤ at'.length → monTo P M (mulF P M b c) e at' k = mulF P M b (monTo P M c e at' k)
  | 0, _ => rfl
  | k + 1, h => by
    show mulF P M (monTo P M _ e at' k) _ = mulF P M b (mulF P M _ _)
    rw [monTo_scale hb hc ha k (by omega), mA ok hb (monTo_in ok hc ha k (by omega)) (pwF_in ok (ia_in ha (by omega)) _)]
omit ok in
theorem monTo_cons {c a x : Int} {e at' : List Int} : ∀ k, monTo P M c (x :: e) (a :: at') (k + 1) = monTo P M (mulF P M c (pwF P M a x.toNat)) e at' k
  | 0 => rfl
  | k + 1 => by
    show mulF P M (monTo P M c (x :: e) (a :: at') (k + 1)) _ = mulF P M _ _
    rw [monTo_cons k]
    rfl
theorem mon_split {c a x : Int} {e at' : List Int} (hc : inF P M c) (ha : inF P M a) (hat : ∀ y ∈ at', inF P M y) (he : e.length = at'.length) (hx : 0 ≤ x) (hx2 : x < 2 ^ 62) :
    monV P M ⟨c, x :: e⟩ (a :: at') = mulF P M (pwI (mulF P M) a x.toNat) (monV P M ⟨c, e⟩ at') := by
  show monTo P M c (x :: e) (a :: at') (e.length + 1) = mulF P M _ (monTo P M c e at' e.length)
  have hp := pwI_in ok ha x.toNat
  rw [monTo_cons, pwF_eq ok ha (by omega), mC ok hc hp, monTo_scale ok hp hc hat _ (by omega)]
theorem ev_split (hq : ordF P M ≤ 65536) {n : Nat} {a : Int} {at' : List Int} (ha : inF P M a) (hat : ∀ y ∈ at', inF P M y) (hl : at'.length = n) : ∀ {l : List Tm}, Low P M (n + 1) l →
    evR P M (a :: at') l = sp P M a (fun j => evR P M at' (sub1 j l)) (ordF P M).toNat
  | [], _ => (sp_zero ok ha _).symm
  | ⟨c, []⟩ :: l, h => by have := (h ⟨c, []⟩ (by simp)).2.1; simp at this
  | ⟨c, x :: e⟩ :: l, h => by
    have ht := h ⟨c, x :: e⟩ (by simp)
    have hxr := ht.2.2 x (by simp)
    have he : e.length = at'.length := by have := ht.2.1; simp at this; omega
    have ih := ev_split hq ha hat hl h.tail
    have hg : ∀ j, inF P M (evR P M at' (sub1 j l)) := fun j => evR_in ok hat ((h.tail.first j).ev hl)
    have hv : inF P M (monV P M ⟨c, e⟩ at') := monV_in ok hat ⟨ht.1, he⟩
    show addF P M (monV P M ⟨c, x :: e⟩ (a :: at')) (evR P M (a :: at') l) = _
    rw [ih, mon_split ok ht.1 ha hat he hxr.1 (by omega), ← sp_upd ok ha hv hg x.toNat _ (by omega)]
    refine sp_same ok _ (fun j _ => ?_)
    have e0 : ia (x :: e) 0 = x := rfl
    show (if j = x.toNat then _ else _) = evR P M at' (if (ia (x :: e) 0).toNat = j then _ else _)
    rw [e0]
    by_cases hj : j = x.toNat
    · rw [if_pos hj, if_pos hj.symm]; rfl
    · rw [if_neg hj, if_neg (Ne.symm hj)]
theorem coef_sub1 {n j : Nat} {e : List Int} (hj : (j : Int) < ordF P M) : ∀ {l : List Tm}, Low P M (n + 1) l → coef (addF P M) (sub1 j l) e = coef (addF P M) l ((j : Int) :: e)
  | [], _ => rfl
  | ⟨c, []⟩ :: l, h => by have := (h ⟨c, []⟩ (by simp)).2.1; simp at this
  | ⟨c, x :: t⟩ :: l, h => by
    have ht := h ⟨c, x :: t⟩ (by simp)
    have hxr := ht.2.2 x (by simp)
    have ih := coef_sub1 hj (e := e) h.tail
    have e0 : ia (x :: t) 0 = x := rfl
    show coef (addF P M) (if (ia (x :: t) 0).toNat = j then ⟨c, t⟩ :: sub1 j l else sub1 j l) e = if x :: t = (j : Int) :: e then addF P M c (coef (addF P M) l ((j : Int) :: e)) else coef (addF P M) l ((j : Int) :: e)
    rw [e0]
    by_cases hx : x.toNat = j
    · have hxj : x = (j : Int) := by omega
      rw [if_pos hx]
      show (if t = e then addF P M c (coef (addF P M) (sub1 j l) e) else coef (addF P M) (sub1 j l) e) = _
      rw [ih, hxj]
      by_cases hte : t = e
      · rw [if_pos hte, if_pos (by rw [hte])]
      · rw [if_neg hte, if_neg (by simpa using hte)]
    · rw [if_neg hx, ih, if_neg (by simp; intro h5; omega)]
/-- Lists of terms with exponents below the order and the same values have the same coefficients. -/
theorem uniq (hq : ordF P M ≤ 65536) : ∀ (n : Nat) {l r : List Tm}, Low P M n l → Low P M n r → (∀ at' : List Int, at'.length = n → (∀ x ∈ at', inF P M x) → evR P M at' l = evR P M at' r) → ∀ e : List Int, e.length = n → coef (addF P M) l e = coef (addF P M) r e
  | 0, l, r, hl, hr, h, e, he => by
    have e0 : e = [] := List.eq_nil_of_length_eq_zero he
    subst e0
    have key : ∀ {l : List Tm}, Low P M 0 l → coef (addF P M) l [] = evR P M [] l := by
      intro l
      induction l with
      | nil => intro _; rfl
      | cons t l ih =>
        intro hl
        have ht := (hl t (by simp)).2.1
        have h0 : t.e = [] := List.eq_nil_of_length_eq_zero ht
        show (if t.e = [] then addF P M t.c (coef (addF P M) l []) else coef (addF P M) l []) = addF P M (monV P M t []) (evR P M [] l)
        rw [if_pos h0, ih hl.tail]
        unfold monV
        rw [h0]
        rfl
    rw [key hl, key hr]
    exact h [] rfl (by simp)
  | n + 1, l, r, hl, hr, h, e, he => by
    match e, he with
    | x :: e, he =>
      by_cases hx : 0 ≤ x ∧ x < ordF P M
      · obtain ⟨j, hj⟩ : ∃ j : Nat, (j : Int) = x := ⟨x.toNat, by omega⟩
        subst hj
        rw [← coef_sub1 ok hx.2 hl, ← coef_sub1 ok hx.2 hr]
        refine uniq hq n (hl.first j) (hr.first j) (fun at' ha hin => ?_) e (by simpa using he)
        have gl : ∀ j, inF P M (evR P M at' (sub1 j l)) := fun j => evR_in ok hin ((hl.first j).ev ha)
        have gr : ∀ j, inF P M (evR P M at' (sub1 j r)) := fun j => evR_in ok hin ((hr.first j).ev ha)
        have hm := hn_inj ok (ordF P M).toNat (u := (List.range (ordF P M).toNat).map fun j => evR P M at' (sub1 j l)) (v := (List.range (ordF P M).toNat).map fun j => evR P M at' (sub1 j r)) (by simp) (by simp)
          (fun y hy => by obtain ⟨j, _, rfl⟩ := List.mem_map.1 hy; exact gl j) (fun y hy => by obtain ⟨j, _, rfl⟩ := List.mem_map.1 hy; exact gr j) (by omega) (fun y h0 hy => by
            have hyi : inF P M y := ⟨h0, by omega⟩
            rw [← sp_hn ok hyi gl, ← sp_hn ok hyi gr, ← ev_split ok hq hyi hin ha hl, ← ev_split ok hq hyi hin ha hr]
            exact h (y :: at') (by simp [ha]) (fun z hz => by
              rcases List.mem_cons.1 hz with rfl | hz
              · exact hyi
              · exact hin z hz))
        have hg := congrArg (fun L => L[j]?) hm
        simp only [List.getElem?_map, List.getElem?_range (show j < (ordF P M).toNat by omega), Option.map_some, Option.some.injEq] at hg
        exact hg
      · have none : ∀ {l : List Tm}, Low P M (n + 1) l → coef (addF P M) l (x :: e) = 0 := fun hl => coef_none fun t ht he' => by
          have := (hl t ht).2.2 x (by rw [he']; simp)
          exact hx this
        rw [none hl, none hr]
/-! ### Reducing -/
theorem pw_red {a : Int} (ha : inF P M a) (r : Nat) : ∀ k : Nat, pwI (mulF P M) a (1 + r + k * ((ordF P M).toNat - 1)) = pwI (mulF P M) a (1 + r)
  | 0 => by simp
  | k + 1 => by
    have h2 := (fldF ok).two
    have e : 1 + r + (k + 1) * ((ordF P M).toNat - 1) = (ordF P M).toNat + (r + k * ((ordF P M).toNat - 1)) := by
      rw [Nat.add_mul]; omega
    have e2 : 1 + r + k * ((ordF P M).toNat - 1) = 1 + (r + k * ((ordF P M).toNat - 1)) := by omega
    rw [e, pwI_add ok ha, (fldF ok).full a ha.1 ha.2, ← pw_red ha r k, e2, pwI_add ok ha 1]
    congr 1
    show a = mulF P M 1 a
    rw [m1 ok ha]
theorem pw_redE {a x : Int} (ha : inF P M a) (h0 : 0 ≤ x) : pwI (mulF P M) a (redE (ordF P M) x).toNat = pwI (mulF P M) a x.toNat := by
  unfold redE
  split
  · rename_i h
    have h2 := (fldF ok).two
    have e : (x - 1).tmod (ordF P M - 1) = (x - 1) % (ordF P M - 1) := Int.tmod_eq_emod_of_nonneg (by omega)
    have hr0 := Int.emod_nonneg (x - 1) (show ordF P M - 1 ≠ 0 by omega)
    have hd0 := Int.ediv_nonneg (show 0 ≤ x - 1 by omega) (show 0 ≤ ordF P M - 1 by omega)
    have hdm := Int.mul_ediv_add_emod (x - 1) (ordF P M - 1)
    rw [e]
    generalize (x - 1) % (ordF P M - 1) = r at *
    generalize (x - 1) / (ordF P M - 1) = k at *
    obtain ⟨r', hr'⟩ : ∃ r' : Nat, (r' : Int) = r := ⟨r.toNat, by omega⟩
    obtain ⟨k', hk'⟩ : ∃ k' : Nat, (k' : Int) = k := ⟨k.toNat, by omega⟩
    obtain ⟨q', hq'⟩ : ∃ q' : Nat, (q' : Int) = ordF P M - 1 := ⟨(ordF P M - 1).toNat, by omega⟩
    subst hr' hk'
    rw [← hq'] at hdm
    have ex : x.toNat = 1 + r' + k' * ((ordF P M).toNat - 1) := by
      rw [show (ordF P M).toNat - 1 = q' by omega]
      have : ((q' * k' : Nat) : Int) = (q' : Int) * (k' : Int) := Int.natCast_mul _ _
      rw [Nat.mul_comm]
      omega
    rw [ex, pw_red ok ha r' k', show (1 + (r' : Int)).toNat = 1 + r' by omega]
  · rfl
omit ok in
theorem redE_low {q x : Int} (hq : 2 ≤ q) (h0 : 0 ≤ x) : 0 ≤ redE q x ∧ redE q x < q := by
  unfold redE
  split
  · have e : (x - 1).tmod (q - 1) = (x - 1) % (q - 1) := Int.tmod_eq_emod_of_nonneg (by omega)
    have h2 := Int.emod_nonneg (x - 1) (show q - 1 ≠ 0 by omega)
    have h3 := Int.emod_lt_of_pos (x - 1) (show 0 < q - 1 by omega)
    rw [e]
    omega
  · omega
theorem monTo_red {c : Int} {e at' : List Int} (hc : inF P M c) (ha : ∀ x ∈ at', inF P M x) (hl : e.length = at'.length) (he : ∀ x ∈ e, 0 ≤ x ∧ x ≤ 65535) : ∀ k, k ≤ at'.length → monTo P M c (e.map (redE (ordF P M))) at' k = monTo P M c e at' k
  | 0, _ => rfl
  | k + 1, h => by
    have h2 := (fldF ok).two
    have hm := he (ia e k) (ia_mem (by omega))
    have hr := redE_range h2 hm.1 hm.2
    have ei : ia (e.map (redE (ordF P M))) k = redE (ordF P M) (ia e k) := by
      unfold ia
      rw [List.getD_eq_getElem?_getD, List.getElem?_map, List.getD_eq_getElem?_getD, List.getElem?_eq_getElem (by omega)]
      rfl
    show mulF P M (monTo P M c _ at' k) (pwF P M _ (ia _ k).toNat) = mulF P M _ _
    have hai := ia_in ha (k := k) (by omega)
    rw [monTo_red hc ha hl he k (by omega), ei, pwF_eq ok hai (by omega), pwF_eq ok hai (by omega), pw_redE ok hai hm.1]
omit ok in
/-- The reduced polynomial. -/
def redP (P M : Int) (p : List Tm) : List Tm := totalT (addF P M) p.length ((p.map (redT (ordF P M))).map fun t => [t])
theorem ev_red {at' : List Int} (ha : ∀ x ∈ at', inF P M x) {p : List Tm} (hp : ∀ t ∈ p, t.e.length = at'.length ∧ inF P M t.c ∧ ∀ x ∈ t.e, 0 ≤ x ∧ x ≤ 65535) : evR P M at' (redP P M p) = evR P M at' p := by
  have h1 : EvOk P M at' (p.map (redT (ordF P M))) := fun t ht => by
    obtain ⟨u, hu, rfl⟩ := List.mem_map.1 ht
    exact ⟨(hp u hu).2.1, by simp [redT, (hp u hu).1]⟩
  have h2 := evR_singles ok ha h1
  rw [List.length_map] at h2
  unfold redP
  rw [h2]
  clear h1 h2
  induction p with
  | nil => rfl
  | cons t p ih =>
    have ht := hp t (by simp)
    show addF P M (monV P M (redT (ordF P M) t) at') (evR P M at' (p.map (redT (ordF P M)))) = addF P M (monV P M t at') (evR P M at' p)
    rw [ih (fun x hx => hp x (by simp [hx]))]
    congr 1
    show monTo P M t.c (t.e.map (redE (ordF P M))) at' (t.e.map (redE (ordF P M))).length = monTo P M t.c t.e at' t.e.length
    rw [List.length_map]
    exact monTo_red ok ht.2.1 ha ht.1 ht.2.2 _ (by omega)
theorem redP_canon {n : Nat} {p : List Tm} (hp : ∀ t ∈ p, t.e.length = n ∧ 1 ≤ t.c ∧ t.c < ordF P M ∧ ∀ x ∈ t.e, 0 ≤ x ∧ x ≤ 65535) : Canon (ordF P M) n (redP P M p) ∧ Low P M n (redP P M p) := by
  have hw : ∀ u ∈ p.map (redT (ordF P M)), u.e.length = n ∧ 1 ≤ u.c ∧ u.c < ordF P M := fun u hu => by
    obtain ⟨t, ht, rfl⟩ := List.mem_map.1 hu
    have := hp t ht
    exact ⟨by simp [redT, this.1], this.2.1, this.2.2.1⟩
  obtain ⟨h1, h2⟩ := totalT_spec (n := n) (addF_ok ok) p.length (l := (p.map (redT (ordF P M))).map fun t => [t]) (by simp) (fun r hr => by
    obtain ⟨u, hu, rfl⟩ := List.mem_map.1 hr
    exact ⟨List.pairwise_singleton _ _, fun x hx => by rw [List.mem_singleton.1 hx]; exact (hw u hu).1, fun x hx => by rw [List.mem_singleton.1 hx]; exact (hw u hu).2⟩)
  refine ⟨h1, fun z hz => ?_⟩
  have h3 := h1.coef_ne (addF_ok ok) hz
  have h4 := h1.c z hz
  have hW : Within (ordF P M) (p.map (redT (ordF P M))) := within_of hw
  rw [h2, sumC_single (addF_ok ok) _ hW] at h3
  obtain ⟨u, hu, e⟩ := coef_mem (add := addF P M) (l := p.map (redT (ordF P M))) (e := z.e) (by omega)
  obtain ⟨t, ht, rfl⟩ := List.mem_map.1 hu
  refine ⟨⟨by omega, h4.2⟩, h1.len z hz, fun x hx => ?_⟩
  rw [← e] at hx
  obtain ⟨y, hy, rfl⟩ := List.mem_map.1 hx
  exact redE_low (fldF ok).two ((hp t ht).2.2.2 y hy).1
/-- Reduced polynomials are equal where their originals have the same values everywhere, and only there. -/
theorem red_same (hq : ordF P M ≤ 65536) {n : Nat} {p r : List Tm} (hp : ∀ t ∈ p, t.e.length = n ∧ 1 ≤ t.c ∧ t.c < ordF P M ∧ ∀ x ∈ t.e, 0 ≤ x ∧ x ≤ 65535) (hr : ∀ t ∈ r, t.e.length = n ∧ 1 ≤ t.c ∧ t.c < ordF P M ∧ ∀ x ∈ t.e, 0 ≤ x ∧ x ≤ 65535) :
    redP P M p = redP P M r ↔ ∀ at' : List Int, at'.length = n → (∀ x ∈ at', inF P M x) → evP P M p at' = evP P M r at' := by
  obtain ⟨cp, lp⟩ := redP_canon ok hp
  obtain ⟨cr, lr⟩ := redP_canon ok hr
  have ev : ∀ {p : List Tm}, (∀ t ∈ p, t.e.length = n ∧ 1 ≤ t.c ∧ t.c < ordF P M ∧ ∀ x ∈ t.e, 0 ≤ x ∧ x ≤ 65535) → ∀ at' : List Int, at'.length = n → (∀ x ∈ at', inF P M x) → evP P M p at' = evR P M at' (redP P M p) := fun hp at' hl ha => by
    rw [ev_red ok ha (fun t ht => ⟨by rw [(hp t ht).1, hl], ⟨by have := (hp t ht).2.1; omega, (hp t ht).2.2.1⟩, (hp t ht).2.2.2⟩)]
    exact evP_R ok ha fun t ht => ⟨⟨by have := (hp t ht).2.1; omega, (hp t ht).2.2.1⟩, by rw [(hp t ht).1, hl]⟩
  constructor
  · intro h at' hl ha
    rw [ev hp at' hl ha, ev hr at' hl ha, h]
  · intro h
    exact canon_ext (addF_ok ok) cp cr (uniq ok hq n lp lr (fun at' hl ha => by rw [← ev hp at' hl ha, ← ev hr at' hl ha]; exact h at' hl ha))
end
end Go.Proofs.YtnjmpjdampdmmaaDoor
