/- Values of polynomials: sums, products, powers; plain. -/
import Derived.Test.YtikfeemmjfoffaaGreatDoorC26
import Derived.Test.YtikfeemmjfoffaaGreatDoorA2
set_option linter.unusedVariables false
set_option linter.unusedSimpArgs false
set_option linter.unusedSectionVars false
namespace Go.Proofs.YtikfeemmjfoffaaGreatDoor

section
variable {P M : Int} (ok : okF P M = true)
include ok
theorem aC {a b : Int} (ha : inF P M a) (hb : inF P M b) : addF P M a b = addF P M b a := (fldF ok).comm _ _ ha.1 ha.2 hb.1 hb.2
theorem aA {a b c : Int} (ha : inF P M a) (hb : inF P M b) (hc : inF P M c) : addF P M (addF P M a b) c = addF P M a (addF P M b c) := (fldF ok).assoc _ _ _ ha.1 ha.2 hb.1 hb.2 hc.1 hc.2
theorem aZ {a : Int} (ha : inF P M a) : addF P M 0 a = a := (fldF ok).zero _ ha.1 ha.2
theorem aZr {a : Int} (ha : inF P M a) : addF P M a 0 = a := by rw [aC ok ha (zero_in ok), aZ ok ha]
theorem mC {a b : Int} (ha : inF P M a) (hb : inF P M b) : mulF P M a b = mulF P M b a := (fldF ok).mcomm _ _ ha.1 ha.2 hb.1 hb.2
theorem mA {a b c : Int} (ha : inF P M a) (hb : inF P M b) (hc : inF P M c) : mulF P M (mulF P M a b) c = mulF P M a (mulF P M b c) := (fldF ok).massoc _ _ _ ha.1 ha.2 hb.1 hb.2 hc.1 hc.2
theorem mD {a b c : Int} (ha : inF P M a) (hb : inF P M b) (hc : inF P M c) : mulF P M (addF P M a b) c = addF P M (mulF P M a c) (mulF P M b c) := (fldF ok).distr _ _ _ ha.1 ha.2 hb.1 hb.2 hc.1 hc.2
theorem mDl {a b c : Int} (ha : inF P M a) (hb : inF P M b) (hc : inF P M c) : mulF P M c (addF P M a b) = addF P M (mulF P M c a) (mulF P M c b) := by
  rw [mC ok hc (addF_in ok ha hb), mD ok ha hb hc, mC ok ha hc, mC ok hb hc]
theorem m1 {a : Int} (ha : inF P M a) : mulF P M 1 a = a := (fldF ok).one _ ha.1 ha.2
theorem m1r {a : Int} (ha : inF P M a) : mulF P M a 1 = a := by rw [mC ok ha (one_in ok), m1 ok ha]
theorem m0 {a : Int} (ha : inF P M a) : mulF P M 0 a = 0 := (fldF ok).mzero _ ha.1 ha.2
theorem m0r {a : Int} (ha : inF P M a) : mulF P M a 0 = 0 := by rw [mC ok ha (zero_in ok), m0 ok ha]
theorem aN {a : Int} (ha : inF P M a) : addF P M a (negF P M a) = 0 := (fldF ok).ngood _ ha.1 ha.2
/-- The middle two of four exchanged. -/
theorem a4 {a b c d : Int} (ha : inF P M a) (hb : inF P M b) (hc : inF P M c) (hd : inF P M d) : addF P M (addF P M a b) (addF P M c d) = addF P M (addF P M a c) (addF P M b d) := by
  rw [aA ok ha hb (addF_in ok hc hd), aA ok ha hc (addF_in ok hb hd), ← aA ok hb hc hd, ← aA ok hc hb hd, aC ok hb hc]
theorem pwI_in {a : Int} (ha : inF P M a) : ∀ n, inF P M (pwI (mulF P M) a n)
  | 0 => one_in ok
  | n + 1 => mulF_in ok (pwI_in ha n) ha
theorem pwI_add {a : Int} (ha : inF P M a) (i : Nat) : ∀ j, pwI (mulF P M) a (i + j) = mulF P M (pwI (mulF P M) a i) (pwI (mulF P M) a j)
  | 0 => (m1r ok (pwI_in ok ha i)).symm
  | j + 1 => by
    show mulF P M (pwI _ a (i + j)) a = mulF P M _ (mulF P M (pwI _ a j) a)
    rw [pwI_add ha i j, mA ok (pwI_in ok ha i) (pwI_in ok ha j) ha]
theorem pwI_sq {a : Int} (ha : inF P M a) : ∀ n, pwI (mulF P M) (mulF P M a a) n = pwI (mulF P M) a (2 * n)
  | 0 => rfl
  | n + 1 => by
    show mulF P M (pwI _ _ n) (mulF P M a a) = mulF P M (mulF P M (pwI _ a (2 * n)) a) a
    rw [pwI_sq ha n, mA ok (pwI_in ok ha _) ha ha]
theorem powF_eq : ∀ (f k : Nat) {r a : Int}, inF P M r → inF P M a → k < 2 ^ f → powF (mulF P M) f r k a = mulF P M r (pwI (mulF P M) a k)
  | 0, k, r, a, hr, ha, hk => by
    have : k = 0 := by simpa using hk
    subst this
    show r = mulF P M r 1
    rw [m1r ok hr]
  | f + 1, k, r, a, hr, ha, hk => by
    rw [powF]
    by_cases h0 : k = 0
    · subst h0
      rw [if_pos rfl]
      exact (m1r ok hr).symm
    · rw [if_neg h0]
      have hk2 : k / 2 < 2 ^ f := by rw [Nat.pow_succ] at hk; omega
      have hr2 : inF P M (if k % 2 = 1 then mulF P M r a else r) := by
        split
        · exact mulF_in ok hr ha
        · exact hr
      rw [powF_eq f (k / 2) hr2 (mulF_in ok ha ha) hk2, pwI_sq ok ha]
      rcases Nat.mod_two_eq_zero_or_one k with e | e
      · rw [if_neg (by omega), show 2 * (k / 2) = k by omega]
      · rw [if_pos e]
        conv => rhs; rw [show k = 1 + 2 * (k / 2) by omega, pwI_add ok ha, show pwI (mulF P M) a 1 = a from m1 ok ha]
        rw [mA ok hr ha (pwI_in ok ha _)]
theorem pwF_eq {a : Int} (ha : inF P M a) {k : Nat} (hk : k < 2 ^ 62) : pwF P M a k = pwI (mulF P M) a k := by
  unfold pwF
  rw [powF_eq ok 62 k (one_in ok) ha hk, m1 ok (pwI_in ok ha k)]

/-! ### Terms -/
theorem monTo_add {c d : Int} {e at' : List Int} (hc : inF P M c) (hd : inF P M d) (ha : ∀ x ∈ at', inF P M x) : ∀ k, k ≤ at'.length → monTo P M (addF P M c d) e at' k = addF P M (monTo P M c e at' k) (monTo P M d e at' k)
  | 0, _ => rfl
  | k + 1, h => by
    show mulF P M (monTo P M _ e at' k) _ = addF P M (mulF P M _ _) (mulF P M _ _)
    rw [monTo_add hc hd ha k (by omega), mD ok (monTo_in ok hc ha k (by omega)) (monTo_in ok hd ha k (by omega)) (pwF_in ok (ia_in ha (by omega)) _)]
theorem monTo_zero {e at' : List Int} (ha : ∀ x ∈ at', inF P M x) : ∀ k, k ≤ at'.length → monTo P M 0 e at' k = 0
  | 0, _ => rfl
  | k + 1, h => by
    show mulF P M (monTo P M _ e at' k) _ = 0
    rw [monTo_zero ha k (by omega), m0 ok (pwF_in ok (ia_in ha (by omega)) _)]
/-- The terms are of the field and as long as the point. -/
def EvOk (P M : Int) (at' : List Int) (l : List Tm) : Prop := ∀ t ∈ l, inF P M t.c ∧ t.e.length = at'.length
theorem monV_in {at' : List Int} (ha : ∀ x ∈ at', inF P M x) {t : Tm} (ht : inF P M t.c ∧ t.e.length = at'.length) : inF P M (monV P M t at') := monTo_in ok ht.1 ha _ (by rw [ht.2]; exact Nat.le_refl _)
omit ok in
/-- The values of a list of terms summed. -/
def evR (P M : Int) (at' : List Int) : List Tm → Int
  | [] => 0
  | t :: l => addF P M (monV P M t at') (evR P M at' l)
theorem evR_in {at' : List Int} (ha : ∀ x ∈ at', inF P M x) : ∀ {l : List Tm}, EvOk P M at' l → inF P M (evR P M at' l)
  | [], _ => zero_in ok
  | t :: l, h => addF_in ok (monV_in ok ha (h t (by simp))) (evR_in ha fun x hx => h x (by simp [hx]))
theorem evR_append {at' : List Int} (ha : ∀ x ∈ at', inF P M x) : ∀ {l m : List Tm}, EvOk P M at' l → EvOk P M at' m → evR P M at' (l ++ m) = addF P M (evR P M at' l) (evR P M at' m)
  | [], m, _, hm => (aZ ok (evR_in ok ha hm)).symm
  | t :: l, m, h, hm => by
    have hl : EvOk P M at' l := fun x hx => h x (by simp [hx])
    show addF P M _ (evR P M at' (l ++ m)) = addF P M (addF P M _ _) _
    rw [evR_append ha hl hm, aA ok (monV_in ok ha (h t (by simp))) (evR_in ok ha hl) (evR_in ok ha hm)]
theorem evTo_take {at' : List Int} (ha : ∀ x ∈ at', inF P M x) {p : List Tm} (h : EvOk P M at' p) : ∀ k, k ≤ p.length → evTo P M p at' k = evR P M at' (p.take k)
  | 0, _ => rfl
  | k + 1, hk => by
    have hm := h (tmv p k) (tmv_mem (by omega))
    show addF P M (evTo P M p at' k) _ = _
    rw [evTo_take ha h k (by omega), take_tm (by omega), evR_append ok ha (fun x hx => h x (List.mem_of_mem_take hx)) (fun x hx => by rw [List.mem_singleton.1 hx]; exact hm)]
    show _ = addF P M _ (addF P M _ 0)
    rw [aZr ok (monV_in ok ha hm)]
theorem evP_R {at' : List Int} (ha : ∀ x ∈ at', inF P M x) {p : List Tm} (h : EvOk P M at' p) : evP P M p at' = evR P M at' p := by
  unfold evP
  rw [evTo_take ok ha h p.length (Nat.le_refl _), List.take_length]
theorem evR_merge {at' : List Int} (ha : ∀ x ∈ at', inF P M x) : ∀ (k : Nat) {p r : List Tm}, p.length + r.length ≤ k → EvOk P M at' p → EvOk P M at' r →
    EvOk P M at' (mergeT (addF P M) k p r) ∧ evR P M at' (mergeT (addF P M) k p r) = addF P M (evR P M at' p) (evR P M at' r)
  | 0, p, r, hk, hp, hr => by
    obtain rfl : p = [] := List.eq_nil_of_length_eq_zero (by omega)
    obtain rfl : r = [] := List.eq_nil_of_length_eq_zero (by omega)
    exact ⟨by simp [mergeT, EvOk], by simp [mergeT, evR]; exact (aZ ok (zero_in ok)).symm⟩
  | k + 1, [], r, hk, hp, hr => by
    rw [show mergeT (addF P M) (k + 1) [] r = r from by cases r <;> rfl]
    exact ⟨hr, (aZ ok (evR_in ok ha hr)).symm⟩
  | k + 1, t :: p, [], hk, hp, hr => by
    rw [show mergeT (addF P M) (k + 1) (t :: p) [] = t :: p from rfl]
    exact ⟨hp, (aZr ok (evR_in ok ha hp)).symm⟩
  | k + 1, t :: p, u :: r, hk, hp, hr => by
    have ht := hp t (by simp)
    have hu := hr u (by simp)
    have hp' : EvOk P M at' p := fun x hx => hp x (by simp [hx])
    have hr' : EvOk P M at' r := fun x hx => hr x (by simp [hx])
    have it := monV_in ok ha ht
    have iu := monV_in ok ha hu
    have ip := evR_in ok ha hp'
    have ir := evR_in ok ha hr'
    simp only [List.length_cons] at hk
    rw [mergeT]
    split
    · obtain ⟨h1, h2⟩ := evR_merge ha k (p := p) (r := u :: r) (by simp; omega) hp' hr
      refine ⟨fun x hx => ?_, ?_⟩
      · rcases List.mem_cons.1 hx with rfl | hx
        · exact ht
        · exact h1 x hx
      · show addF P M _ (evR P M at' _) = addF P M (addF P M _ _) _
        rw [h2, aA ok it ip (evR_in ok ha hr)]
    · split
      · obtain ⟨h1, h2⟩ := evR_merge ha k (p := t :: p) (r := r) (by simp; omega) hp hr'
        refine ⟨fun x hx => ?_, ?_⟩
        · rcases List.mem_cons.1 hx with rfl | hx
          · exact hu
          · exact h1 x hx
        · show addF P M _ (evR P M at' _) = addF P M _ (addF P M _ _)
          have iP := evR_in ok ha hp
          rw [h2, ← aA ok iu iP ir, aC ok iu iP, aA ok iP iu ir]
      · rename_i h1 h2
        have he : t.e = u.e := by
          have hr1 := cmpL_range t.e u.e
          exact cmpL_eq (by rw [ht.2, hu.2]) (by omega)
        obtain ⟨h3, h4⟩ := evR_merge ha k (p := p) (r := r) (by omega) hp' hr'
        have hsum : monV P M ⟨addF P M t.c u.c, t.e⟩ at' = addF P M (monV P M t at') (monV P M u at') := by
          unfold monV
          dsimp only
          rw [monTo_add ok ht.1 hu.1 ha _ (by rw [ht.2]; exact Nat.le_refl _), ← he]
        have hgoal : addF P M (addF P M (monV P M t at') (evR P M at' p)) (addF P M (monV P M u at') (evR P M at' r)) = addF P M (addF P M (monV P M t at') (monV P M u at')) (addF P M (evR P M at' p) (evR P M at' r)) := a4 ok it ip iu ir
        split
        · refine ⟨fun x hx => ?_, ?_⟩
          · rcases List.mem_cons.1 hx with rfl | hx
            · exact ⟨addF_in ok ht.1 hu.1, ht.2⟩
            · exact h3 x hx
          · show addF P M (monV P M ⟨addF P M t.c u.c, t.e⟩ at') _ = addF P M (addF P M _ _) (addF P M _ _)
            rw [h4, hsum, hgoal]
        · rename_i h5
          have h6 : addF P M t.c u.c = 0 := by simpa using h5
          refine ⟨h3, ?_⟩
          show _ = addF P M (addF P M _ _) (addF P M _ _)
          rw [h4, hgoal, ← hsum, h6]
          rw [show monV P M ⟨0, t.e⟩ at' = 0 from monTo_zero ok ha _ (by rw [ht.2]; exact Nat.le_refl _), aZ ok (addF_in ok ip ir)]
omit ok in
def evS (P M : Int) (at' : List Int) : List (List Tm) → Int
  | [] => 0
  | p :: l => addF P M (evR P M at' p) (evS P M at' l)
theorem evS_in {at' : List Int} (ha : ∀ x ∈ at', inF P M x) : ∀ {l : List (List Tm)}, (∀ p ∈ l, EvOk P M at' p) → inF P M (evS P M at' l)
  | [], _ => zero_in ok
  | p :: l, h => addF_in ok (evR_in ok ha (h p (by simp))) (evS_in ha fun x hx => h x (by simp [hx]))
theorem evS_append {at' : List Int} (ha : ∀ x ∈ at', inF P M x) : ∀ {l m : List (List Tm)}, (∀ p ∈ l, EvOk P M at' p) → (∀ p ∈ m, EvOk P M at' p) → evS P M at' (l ++ m) = addF P M (evS P M at' l) (evS P M at' m)
  | [], m, _, hm => (aZ ok (evS_in ok ha hm)).symm
  | p :: l, m, h, hm => by
    have hl : ∀ x ∈ l, EvOk P M at' x := fun x hx => h x (by simp [hx])
    show addF P M _ (evS P M at' (l ++ m)) = addF P M (addF P M _ _) _
    rw [evS_append ha hl hm, aA ok (evR_in ok ha (h p (by simp))) (evS_in ok ha hl) (evS_in ok ha hm)]
theorem evS_flat {at' : List Int} (ha : ∀ x ∈ at', inF P M x) : ∀ {l : List (List Tm)}, (∀ p ∈ l, EvOk P M at' p) → evS P M at' l = evR P M at' l.flatten
  | [], _ => rfl
  | p :: l, h => by
    have hl : ∀ x ∈ l, EvOk P M at' x := fun x hx => h x (by simp [hx])
    rw [List.flatten_cons, evR_append ok ha (h p (by simp)) (fun t ht => by
      obtain ⟨x, hx, hxt⟩ := List.mem_flatten.1 ht
      exact hl x hx t hxt), ← evS_flat ha hl]
    rfl
/-- The value of a sum is the sum of the values. -/
theorem evR_total {at' : List Int} (ha : ∀ x ∈ at', inF P M x) : ∀ (k : Nat) {l : List (List Tm)}, l.length ≤ k → (∀ p ∈ l, EvOk P M at' p) →
    EvOk P M at' (totalT (addF P M) k l) ∧ evR P M at' (totalT (addF P M) k l) = evS P M at' l := by
  intro k
  induction k with
  | zero =>
    intro l hk _
    obtain rfl : l = [] := List.eq_nil_of_length_eq_zero (by omega)
    exact ⟨by simp [totalT, EvOk], rfl⟩
  | succ k ih =>
    intro l hk h
    rw [totalT]
    by_cases h0 : l.length = 0
    · rw [if_pos h0]
      obtain rfl : l = [] := List.eq_nil_of_length_eq_zero h0
      exact ⟨by simp [EvOk], rfl⟩
    · rw [if_neg h0]
      by_cases h1 : l.length = 1
      · rw [if_pos h1]
        obtain ⟨p, rfl⟩ := List.length_eq_one_iff.1 h1
        have hp := h p (by simp)
        exact ⟨hp, (aZr ok (evR_in ok ha hp)).symm⟩
      · rw [if_neg h1]
        have hl1 : ∀ p ∈ l.take (l.length / 2), EvOk P M at' p := fun p hp => h p (List.mem_of_mem_take hp)
        have hl2 : ∀ p ∈ l.drop (l.length / 2), EvOk P M at' p := fun p hp => h p (List.mem_of_mem_drop hp)
        obtain ⟨a1, a2⟩ := ih (l := l.take (l.length / 2)) (by rw [List.length_take]; omega) hl1
        obtain ⟨b1, b2⟩ := ih (l := l.drop (l.length / 2)) (by rw [List.length_drop]; omega) hl2
        obtain ⟨c1, c2⟩ := evR_merge ok ha _ (Nat.le_refl _) a1 b1
        refine ⟨c1, ?_⟩
        rw [c2, a2, b2, ← evS_append ok ha hl1 hl2, List.take_append_drop]
/-- The value of a sum of single terms. -/
theorem evR_singles {at' : List Int} (ha : ∀ x ∈ at', inF P M x) {l : List Tm} (h : EvOk P M at' l) : evR P M at' (totalT (addF P M) l.length (l.map fun t => [t])) = evR P M at' l := by
  have h1 : ∀ p ∈ l.map (fun t => [t]), EvOk P M at' p := fun p hp x hx => by
    obtain ⟨t, ht, rfl⟩ := List.mem_map.1 hp
    rw [List.mem_singleton.1 hx]
    exact h t ht
  have h2 := (evR_total ok ha l.length (l := l.map fun t => [t]) (by simp) h1).2
  rw [h2, evS_flat ok ha h1]
  congr 1
  induction l with
  | nil => rfl
  | cons t l ih => simp only [List.map_cons, List.flatten_cons, List.singleton_append]; rw [ih (fun x hx => h x (by simp [hx])) (fun p hp => h1 p (by simp at hp ⊢; exact .inr hp)) ?_]; exact (evR_total ok ha l.length (l := l.map fun t => [t]) (by simp) (fun p hp => h1 p (by simp at hp ⊢; exact .inr hp))).2
end
end Go.Proofs.YtikfeemmjfoffaaGreatDoor
