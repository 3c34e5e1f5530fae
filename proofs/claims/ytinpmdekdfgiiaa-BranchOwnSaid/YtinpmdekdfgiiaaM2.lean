/- Joined: G1, F5, F6. -/
import Derived.Test.YtinpmdekdfgiiaaD3
import Derived.Test.YtinpmdekdfgiiaaM1
import Derived.Test.YtinpmdekdfgiiaaJ2
import Derived.Test.YtinpmdekdfgiiaaLib6
/- Plain law of From: the nodes that are made for a formula have its values. -/
set_option linter.unusedVariables false
set_option linter.unusedSimpArgs false
namespace Go.Proofs.Ytinpmdekdfgiiaa

/-- The value of a list of nodes each of which leads to earlier ones. -/
def vrF (ns : List Nd) (x : Nat → Bool) : Nat → Int → Bool
  | 0, c => c == -2
  | f + 1, c => if c < 0 then c == -2 else vrF ns x f (pk (x (nd ns c.toNat).v.toNat) (nd ns c.toNat).z (nd ns c.toNat).o)
def vr (ns : List Nd) (x : Nat → Bool) (c : Int) : Bool := vrF ns x (c.toNat + 1) c
/-- Nodes that lead to earlier ones, and ask inputs below n. -/
def Good (n : Int) (ns : List Nd) : Prop := ∀ k, k < ns.length → 0 ≤ (nd ns k).v ∧ (nd ns k).v < n ∧ refOk (nd ns k).z k ∧ refOk (nd ns k).o k
theorem pk_ref {b : Bool} {z o : Int} {m : Nat} (hz : refOk z m) (ho : refOk o m) : refOk (pk b z o) m := by unfold pk; split <;> assumption
theorem vrF_fuel {n : Int} {ns : List Nd} (h : Good n ns) (x : Nat → Bool) : ∀ (f g : Nat) (c : Int), c < ns.length → c.toNat + 1 ≤ f → c.toNat + 1 ≤ g → vrF ns x f c = vrF ns x g c := by
  intro f
  induction f with
  | zero => intro g c _ h1; omega
  | succ f ih =>
    intro g c h0 h1 h2
    cases g with
    | zero => omega
    | succ g =>
      unfold vrF
      by_cases hc : c < 0
      · rw [if_pos hc, if_pos hc]
      · rw [if_neg hc, if_neg hc]
        have hk := h c.toNat (by omega)
        have hp := pk_ref (b := x (nd ns c.toNat).v.toNat) hk.2.2.1 hk.2.2.2
        unfold refOk at hp
        by_cases hn : pk (x (nd ns c.toNat).v.toNat) (nd ns c.toNat).z (nd ns c.toNat).o < 0
        · have e : ∀ f, vrF ns x f (pk (x (nd ns c.toNat).v.toNat) (nd ns c.toNat).z (nd ns c.toNat).o) = (pk (x (nd ns c.toNat).v.toNat) (nd ns c.toNat).z (nd ns c.toNat).o == -2) := by
            intro f
            cases f with
            | zero => rfl
            | succ f => unfold vrF; rw [if_pos hn]
          rw [e, e]
        · exact ih g _ (by omega) (by omega) (by omega)
theorem vr_neg (ns : List Nd) (x : Nat → Bool) {c : Int} (h : c < 0) : vr ns x c = (c == -2) := by unfold vr vrF; rw [if_pos h]
theorem vr_step {n : Int} {ns : List Nd} (h : Good n ns) (x : Nat → Bool) {k : Nat} (hk : k < ns.length) : vr ns x k = vr ns x (pk (x (nd ns k).v.toNat) (nd ns k).z (nd ns k).o) := by
  have hn := h k hk
  have hp := pk_ref (b := x (nd ns k).v.toNat) hn.2.2.1 hn.2.2.2
  generalize hq : pk (x (nd ns k).v.toNat) (nd ns k).z (nd ns k).o = q at hp ⊢
  conv => lhs; unfold vr vrF
  rw [if_neg (by omega), Int.toNat_natCast, hq]
  by_cases hqn : q < 0
  · rw [vr_neg _ _ hqn]
    cases k with
    | zero => rfl
    | succ k => unfold vrF; rw [if_pos hqn]
  · unfold vr
    unfold refOk at hp
    exact vrF_fuel h x _ _ _ (by omega) (by omega) (by omega)
theorem good_append {n : Int} {ns e : List Nd} (h : Good n (ns ++ e)) : Good n ns := by
  intro k hk
  have := h k (by rw [List.length_append]; omega)
  have e1 : nd (ns ++ e) k = nd ns k := by simp [nd, List.getD_eq_getElem?_getD, List.getElem?_append, hk]
  rw [e1] at this
  exact this
theorem vr_append {n : Int} {ns e : List Nd} (h : Good n (ns ++ e)) (x : Nat → Bool) : ∀ (m : Nat) (c : Int), c.toNat ≤ m → c < ns.length → vr (ns ++ e) x c = vr ns x c := by
  have hg := good_append h
  intro m
  induction m with
  | zero =>
    intro c h1 h2
    by_cases hc : c < 0
    · rw [vr_neg _ _ hc, vr_neg _ _ hc]
    · obtain rfl : c = ((0 : Nat) : Int) := by omega
      have e1 : nd (ns ++ e) 0 = nd ns 0 := by simp [nd, List.getD_eq_getElem?_getD, List.getElem?_append, show 0 < ns.length from by omega]
      rw [vr_step h x (k := 0) (by rw [List.length_append]; omega), vr_step hg x (k := 0) (by omega), e1]
      have hn := hg 0 (by omega)
      have hp := pk_ref (b := x (nd ns 0).v.toNat) hn.2.2.1 hn.2.2.2
      unfold refOk at hp
      rw [vr_neg _ _ (by omega), vr_neg _ _ (by omega)]
  | succ m ih =>
    intro c h1 h2
    by_cases hc : c < 0
    · rw [vr_neg _ _ hc, vr_neg _ _ hc]
    · obtain ⟨k, rfl⟩ : ∃ k : Nat, c = k := ⟨c.toNat, by omega⟩
      have e1 : nd (ns ++ e) k = nd ns k := by simp [nd, List.getD_eq_getElem?_getD, List.getElem?_append, show k < ns.length from by omega]
      rw [vr_step h x (by rw [List.length_append]; omega), vr_step hg x (by omega), e1]
      have hn := hg k (by omega)
      have hp := pk_ref (b := x (nd ns k).v.toNat) hn.2.2.1 hn.2.2.2
      unfold refOk at hp
      exact ih _ (by omega) (by omega)

/-! ### put -/

def putK (k n : Int) (ps : List (Int → Int → List Nd → Int × List Nd)) (z o : Int) (ns : List Nd) : Int × List Nd :=
  let p0 := ps.getD 0 (fun z _ ns => (z, ns))
  let p1 := ps.getD 1 (fun z _ ns => (z, ns))
  if z = o ∨ ns.length > 20000 then (z, ns)
  else if k = 1 then (if n = 0 then z else o, ns)
  else if k = 0 then ((ns.length : Nat), ns ++ [⟨n, z, o⟩])
  else if k = 2 then p0 o z ns
  else if k = 3 then p0 z (p1 z o ns).1 (p1 z o ns).2
  else if k = 4 then p0 (p1 z o ns).1 o (p1 z o ns).2
  else p0 (p1 z o ns).1 (p1 o z (p1 z o ns).2).1 (p1 o z (p1 z o ns).2).2
mutual
def putF : Fm → Int → Int → List Nd → Int × List Nd
  | .mk k n l => putK k n (putL l)
def putL : List Fm → List (Int → Int → List Nd → Int × List Nd)
  | [] => []
  | f :: fs => putF f :: putL fs
end
theorem putF_eq (f : Fm) : putF f = putK f.k f.n (putL f.l) := by cases f; rw [putF]; rfl
theorem putL_get {l : List Fm} : ∀ {j : Nat}, j < l.length → (putL l).getD j (fun z _ ns => (z, ns)) = putF (kd l j) := by
  induction l with
  | nil => intro j h; simp at h
  | cons f fs ih =>
    intro j h
    cases j with
    | zero => simp [putL, kd_zero]
    | succ j => rw [kd_succ, ← ih (by simpa using h)]; simp [putL]
def wgK (k : Int) (ws : List Nat) : Nat :=
  if k = 0 then 1 else if k = 1 then 0 else if k = 2 then ws.getD 0 0 else if k = 5 then ws.getD 0 0 + 2 * ws.getD 1 0 else ws.getD 0 0 + ws.getD 1 0
mutual
/-- The weight of a formula. -/
def wgF : Fm → Nat
  | .mk k _ l => wgK k (wgL l)
def wgL : List Fm → List Nat
  | [] => []
  | f :: fs => wgF f :: wgL fs
end
theorem wgF_eq (f : Fm) : wgF f = wgK f.k (wgL f.l) := by cases f; rw [wgF]; rfl
theorem wgL_get {l : List Fm} : ∀ {j : Nat}, j < l.length → (wgL l).getD j 0 = wgF (kd l j) := by
  induction l with
  | nil => intro j h; simp at h
  | cons f fs ih =>
    intro j h
    cases j with
    | zero => simp [wgL, kd_zero]
    | succ j => rw [kd_succ, ← ih (by simpa using h)]; simp [wgL]

/-- What put does to the nodes. -/
structure PutOk (n : Int) (f : Fm) (z o : Int) (ns : List Nd) (r : Int × List Nd) : Prop where
  pre : ∃ e, r.2 = ns ++ e
  len : r.2.length ≤ ns.length + wgF f
  cap : ns.length ≤ 20001 → r.2.length ≤ 20001
  good : Good n r.2
  ref : refOk r.1 r.2.length
  val : r.2.length ≤ 20000 → ∀ x, vr r.2 x r.1 = if evF x f then vr r.2 x o else vr r.2 x z
theorem PutOk.grow {n : Int} {f : Fm} {z o : Int} {ns : List Nd} {r : Int × List Nd} (h : PutOk n f z o ns r) : ns.length ≤ r.2.length := by
  obtain ⟨e, he⟩ := h.pre
  rw [he, List.length_append]; omega
theorem PutOk.keep {n : Int} {f : Fm} {z o : Int} {ns : List Nd} {r : Int × List Nd} (h : PutOk n f z o ns r) (x : Nat → Bool) {c : Int} (hc : c < ns.length) : vr r.2 x c = vr ns x c := by
  obtain ⟨e, he⟩ := h.pre
  have hg := h.good
  rw [he] at hg ⊢
  exact vr_append hg x _ c (Nat.le_refl _) hc

theorem node_cases {k n : Int} {m : Nat} (h : nodeB k n m = true) : (k = 0 ∧ 0 ≤ n ∧ n < 16 ∧ m = 0) ∨ (k = 1 ∧ (n = 0 ∨ n = 1) ∧ m = 0) ∨ (k = 2 ∧ n = 0 ∧ m = 1) ∨ ((k = 3 ∨ k = 4 ∨ k = 5) ∧ n = 0 ∧ m = 2) := by
  unfold nodeB at h
  split at h
  · simp at h; omega
  · split at h
    · simp at h; omega
    · split at h
      · simp at h; omega
      · split at h
        · simp at h; omega
        · cases h

theorem put_ok {n : Int} : ∀ (N : Nat) (f : Fm), cntF f ≤ N → shpF f = true → inpF f ≤ n → ∀ (z o : Int) (ns : List Nd), Good n ns → refOk z ns.length → refOk o ns.length → PutOk n f z o ns (putF f z o ns) := by
  intro N
  induction N with
  | zero => intro f h; have := cntF_pos f; omega
  | succ N ih =>
    intro f hc hs hi z o ns hg hz ho
    rw [shpF_eq, Bool.and_eq_true] at hs
    have hkid : ∀ j, j < f.l.length → ∀ (z o : Int) (ns : List Nd), Good n ns → refOk z ns.length → refOk o ns.length → PutOk n (kd f.l j) z o ns ((putL f.l).getD j (fun z _ ns => (z, ns)) z o ns) := by
      intro j hj z o ns a b c
      rw [putL_get hj]
      refine ih _ ?_ (shpL_true.1 hs.1 j hj) ?_ z o ns a b c
      · have := cnt_kid hj; rw [cntF_eq] at hc; omega
      · have := inp_kid hj; rw [inpF_eq] at hi; omega
    rw [putF_eq]
    unfold putK
    dsimp only
    by_cases he : z = o ∨ ns.length > 20000
    · rw [if_pos he]
      refine ⟨⟨[], by simp⟩, by dsimp only; omega, fun h => h, hg, hz, fun hl x => ?_⟩
      rcases he with rfl | he
      · dsimp only; split <;> rfl
      · dsimp only at hl; omega
    rw [if_neg he]
    rcases node_cases hs.2 with ⟨k0, n0, n1, m0⟩ | ⟨k1, n1, m0⟩ | ⟨k2, n0, m1⟩ | ⟨k3, n0, m2⟩
    · -- a variable
      rw [if_neg (by omega), if_pos k0]
      have hin : f.n < n := by rw [inpF_eq, if_pos k0] at hi; omega
      have hg2 : Good n (ns ++ [⟨f.n, z, o⟩]) := by
        intro k hk
        by_cases e : k = ns.length
        · subst e; rw [nd_snoc]; exact ⟨n0, hin, hz, ho⟩
        · have : k < ns.length := by simp at hk; omega
          rw [nd_snoc_lt this]; exact hg k this
      refine ⟨⟨_, rfl⟩, ?_, fun h => by simp; omega, hg2, .inr (.inr ⟨by omega, by simp; omega⟩), fun hl x => ?_⟩
      · rw [wgF_eq]; unfold wgK; rw [if_pos k0]; simp
      · rw [ev_var x k0]
        dsimp only
        rw [vr_step hg2 x (k := ns.length) (by simp), nd_snoc]
        unfold pk
        dsimp only
        split <;> rfl
    · -- a constant
      rw [if_pos k1]
      refine ⟨⟨[], by simp⟩, by dsimp only; omega, fun h => h, hg, ?_, fun hl x => ?_⟩
      · dsimp only; split <;> assumption
      · rw [ev_const x k1]
        dsimp only
        rcases n1 with e | e
        · rw [e]; rfl
        · rw [e]; rfl
    · -- not
      rw [if_neg (by omega), if_neg (by omega), if_pos k2]
      have h0 := hkid 0 (by omega) o z ns hg ho hz
      refine ⟨h0.pre, ?_, h0.cap, h0.good, h0.ref, fun hl x => ?_⟩
      · have := h0.len
        rw [wgF_eq]; unfold wgK
        rw [if_neg (by omega), if_neg (by omega), if_pos k2, wgL_get (by omega)]; exact this
      · rw [h0.val hl x, ev_not x k2 m1]
        cases evF x (kd f.l 0) <;> rfl
    · have h1 := hkid 1 (by omega) z o ns hg hz ho
      have hw : ∀ a : Nat, a < 2 → (wgL f.l).getD a 0 = wgF (kd f.l a) := fun a ha => wgL_get (by omega)
      have hev : ∀ (x : Nat → Bool) (a : Nat), a < 2 → (evL x f.l).getD a false = evF x (kd f.l a) := fun x a ha => evL_get x (by omega)
      rcases k3 with k3 | k3 | k3
      · rw [if_neg (by omega), if_neg (by omega), if_neg (by omega), if_pos k3]
        generalize hp1 : (putL f.l).getD 1 (fun z _ ns => (z, ns)) z o ns = p1 at h1
        have h0 := hkid 0 (by omega) z p1.1 p1.2 h1.good (hz.mono h1.grow) h1.ref
        refine ⟨?_, ?_, fun h => h0.cap (h1.cap h), h0.good, h0.ref, fun hl x => ?_⟩
        · obtain ⟨e1, he1⟩ := h1.pre
          obtain ⟨e0, he0⟩ := h0.pre
          exact ⟨e1 ++ e0, by rw [he0, he1, List.append_assoc]⟩
        · have a := h0.len; have b := h1.len
          rw [wgF_eq]; unfold wgK
          rw [if_neg (by omega), if_neg (by omega), if_neg (by omega), if_neg (by omega), hw 0 (by omega), hw 1 (by omega)]
          omega
        · have g0 := h0.grow
          rw [h0.val hl x, h0.keep x (refOk_lt h1.ref), h1.val (by omega) x, ev_and x k3 m2]
          have lz := refOk_lt hz; have lo := refOk_lt ho; have g1 := h1.grow
          rw [h0.keep x (c := z) (by omega), h0.keep x (c := o) (by omega)]
          cases evF x (kd f.l 0) <;> cases evF x (kd f.l 1) <;> rfl
      · rw [if_neg (by omega), if_neg (by omega), if_neg (by omega), if_neg (by omega), if_pos k3]
        generalize hp1 : (putL f.l).getD 1 (fun z _ ns => (z, ns)) z o ns = p1 at h1
        have h0 := hkid 0 (by omega) p1.1 o p1.2 h1.good h1.ref (ho.mono h1.grow)
        refine ⟨?_, ?_, fun h => h0.cap (h1.cap h), h0.good, h0.ref, fun hl x => ?_⟩
        · obtain ⟨e1, he1⟩ := h1.pre
          obtain ⟨e0, he0⟩ := h0.pre
          exact ⟨e1 ++ e0, by rw [he0, he1, List.append_assoc]⟩
        · have a := h0.len; have b := h1.len
          rw [wgF_eq]; unfold wgK
          rw [if_neg (by omega), if_neg (by omega), if_neg (by omega), if_neg (by omega), hw 0 (by omega), hw 1 (by omega)]
          omega
        · have g0 := h0.grow
          rw [h0.val hl x, h0.keep x (refOk_lt h1.ref), h1.val (by omega) x, ev_or x k3 m2]
          have lz := refOk_lt hz; have lo := refOk_lt ho; have g1 := h1.grow
          rw [h0.keep x (c := z) (by omega), h0.keep x (c := o) (by omega)]
          cases evF x (kd f.l 0) <;> cases evF x (kd f.l 1) <;> rfl
      · rw [if_neg (by omega), if_neg (by omega), if_neg (by omega), if_neg (by omega), if_neg (by omega)]
        generalize hp1 : (putL f.l).getD 1 (fun z _ ns => (z, ns)) z o ns = p1 at h1
        have h2 := hkid 1 (by omega) o z p1.2 h1.good (ho.mono h1.grow) (hz.mono h1.grow)
        generalize hp2 : (putL f.l).getD 1 (fun z _ ns => (z, ns)) o z p1.2 = p2 at h2
        have h0 := hkid 0 (by omega) p1.1 p2.1 p2.2 h2.good (h1.ref.mono h2.grow) h2.ref
        refine ⟨?_, ?_, fun h => h0.cap (h2.cap (h1.cap h)), h0.good, h0.ref, fun hl x => ?_⟩
        · obtain ⟨e1, he1⟩ := h1.pre
          obtain ⟨e2, he2⟩ := h2.pre
          obtain ⟨e0, he0⟩ := h0.pre
          exact ⟨e1 ++ (e2 ++ e0), by rw [he0, he2, he1, List.append_assoc, List.append_assoc]⟩
        · have a := h0.len; have b := h1.len; have c := h2.len
          rw [wgF_eq]; unfold wgK
          rw [if_neg (by omega), if_neg (by omega), if_neg (by omega), if_pos k3, hw 0 (by omega), hw 1 (by omega)]
          omega
        · have g0 := h0.grow; have g2 := h2.grow; have g1 := h1.grow
          have l1 := refOk_lt h1.ref
          have lz := refOk_lt hz; have lo := refOk_lt ho
          rw [h0.val hl x, h0.keep x (refOk_lt h2.ref), h2.val (by omega) x, h0.keep x (c := p1.1) (by omega), h2.keep x l1, h1.val (by omega) x, ev_xor x k3 m2]
          rw [h0.keep x (c := z) (by omega), h0.keep x (c := o) (by omega), h2.keep x (c := z) (by omega), h2.keep x (c := o) (by omega)]
          cases evF x (kd f.l 0) <;> cases evF x (kd f.l 1) <;> rfl
end Go.Proofs.Ytinpmdekdfgiiaa

/- Formulas: counting, shape, validity, inputs, values and weights, in the reference. -/
set_option linter.unusedVariables false
set_option linter.unusedSimpArgs false
namespace Go.Proofs.Ytinpmdekdfgiiaa
open Go.RowKit

theorem inp_bounds : ∀ (N : Nat) (f : Fm), cntF f ≤ N → shpF f = true → 0 ≤ inpF f ∧ inpF f ≤ 16 := by
  intro N
  induction N with
  | zero => intro f h; have := cntF_pos f; omega
  | succ N ih =>
    intro f hc hs
    rw [shpF_eq, Bool.and_eq_true] at hs
    have key : ∀ l : List Fm, cntL l ≤ N → shpL l = true → 0 ≤ inpL l ∧ inpL l ≤ 16 := by
      intro l
      induction l with
      | nil => intro _ _; simp [inpL]
      | cons g gs ih2 =>
        intro h2 h3
        rw [cntL] at h2
        rw [shpL, Bool.and_eq_true] at h3
        rw [inpL]
        have := ih g (by omega) h3.1
        have := ih2 (by omega) h3.2
        omega
    have h1 := key f.l (by rw [cntF_eq] at hc; omega) hs.1
    have h2 := node_cases hs.2
    rw [inpF_eq]
    split <;> omega
end Go.Proofs.Ytinpmdekdfgiiaa

/- Formulas: Few, values and weights, in the reference. -/
set_option linter.unusedVariables false
set_option linter.unusedSimpArgs false
namespace Go.Proofs.Ytinpmdekdfgiiaa
open Go.RowKit

set_option maxRecDepth 100000 in
set_option maxHeartbeats 1000000 in
theorem few35_any (most : Int) (f : Fm) (B : Option Addr) (cB : Nat) (w : World) (hm0 : 0 ≤ most) (hm1 : most ≤ 1000000) (hr : RK w B [f]) :
    Calls Try.prog 35 #[.int .i64 most, .slice B 1 cB] w fun e w' => e = .returned (.bool (decide ((cntF f : Int) ≤ most))) ∧ Kept w w' := by
  obtain ⟨b, off, rfl, hk⟩ := hr.at_ (by simp)
  have hk0 := hk 0 (by simp)
  rw [kd_zero, Nat.zero_mul, Nat.add_zero] at hk0
  obtain ⟨d0, d1, ⟨A', c', d2, rk⟩, dl⟩ := hk0
  have C := weigh_any most hm0 hm1 (cntF f) f A' c' 0 w (Nat.le_refl _) dl rk (by omega) (by omega)
  unfold fmV at C
  rw [Int.zero_add] at C
  obtain ⟨v, hv⟩ : ∃ v, v = min (cntF f : Int) (most + 1) := ⟨_, rfl⟩
  rw [← hv] at C
  have HC := Lib.hid C; clear C hk hr
  have hdec : decide ((cntF f : Int) ≤ most) = decide (v ≤ most) := by
    by_cases h : (cntF f : Int) ≤ most
    · rw [decide_eq_true h, decide_eq_true (by omega)]
    · rw [decide_eq_false h, decide_eq_false (by omega)]
  rw [hdec]
  have hv0 : 0 ≤ v := by omega
  have hm : decide ((0 : Int) ≤ most) = true := decide_eq_true hm0
  clear hdec hv
  go_enter Try.func35, Try.ntmps35
  go_wp2_with fail
  go_loopg [5, 6] 1 (fun g' s5 s6 wr => (g' = 1 ∧ s6 = .int .i64 0 ∧ s5 = .int .i64 0 ∧ w = wr) ∨ (g' = 0 ∧ s6 = .int .i64 1 ∧ s5 = .int .i64 v ∧ Kept w wr))
  case atStart => exact .inl ⟨rfl, rfl, rfl, rfl⟩
  case round =>
    rcases hrel with ⟨rfl, rfl, rfl, rfl⟩ | ⟨rfl, rfl, rfl, K⟩
    · go_wp2_with fail
      refine HC.out.mono ?_
      rintro e w1 ⟨rfl, k⟩
      go_wp2_with fail
      go_roundg 0
      case rel => exact .inr ⟨rfl, rfl, rfl, k⟩
      case measure => omega
    · cases hd : decide (v ≤ most)
      all_goals
        go_wp2_with fail
        go_ret
        exact ⟨ret_bool (by simp_all), K⟩

theorem fm_cases {f : Fm} (h : shpF f = true) : (∃ n, f = .mk 0 n [] ∧ 0 ≤ n ∧ n < 16) ∨ (f = .mk 1 0 [] ∨ f = .mk 1 1 []) ∨ (∃ g, f = .mk 2 0 [g] ∧ shpF g = true) ∨ ∃ k g h, (k = 3 ∨ k = 4 ∨ k = 5) ∧ f = .mk k 0 [g, h] ∧ shpF g = true ∧ shpF h = true := by
  rw [shpF_eq, Bool.and_eq_true] at h
  obtain ⟨hs, hn⟩ := h
  cases f with
  | mk k n l =>
    have hc := node_cases hn
    simp only [Fm.k, Fm.n, Fm.l] at hc hs
    rcases hc with ⟨rfl, n0, n1, m0⟩ | ⟨rfl, n1, m0⟩ | ⟨rfl, rfl, m1⟩ | ⟨k3, rfl, m2⟩
    · obtain rfl := List.eq_nil_of_length_eq_zero m0
      exact .inl ⟨n, rfl, n0, n1⟩
    · obtain rfl := List.eq_nil_of_length_eq_zero m0
      rcases n1 with rfl | rfl
      · exact .inr (.inl (.inl rfl))
      · exact .inr (.inl (.inr rfl))
    · match l, m1 with
      | [g], _ =>
        rw [shpL, Bool.and_eq_true] at hs
        exact .inr (.inr (.inl ⟨g, rfl, hs.1⟩))
    · match l, m2 with
      | [g, h], _ =>
        rw [shpL, shpL, Bool.and_eq_true, Bool.and_eq_true] at hs
        exact .inr (.inr (.inr ⟨k, g, h, k3, rfl, hs.1, hs.2.1⟩))
theorem rk_one {w : World} {A : Option Addr} {g : Fm} (h : RK w A [g]) : ∃ b off, A = some ⟨b, off, none⟩ ∧ KidAt w b off g := by
  obtain ⟨b, off, e, hk⟩ := h.at_ (by simp)
  have := hk 0 (by simp)
  rw [kd_zero, Nat.zero_mul, Nat.add_zero] at this
  exact ⟨b, off, e, this⟩
theorem rk_two {w : World} {A : Option Addr} {g h : Fm} (hr : RK w A [g, h]) : ∃ b off, A = some ⟨b, off, none⟩ ∧ KidAt w b off g ∧ KidAt w b (off + 3) h := by
  obtain ⟨b, off, e, hk⟩ := hr.at_ (by simp)
  have h0 := hk 0 (by simp)
  have h1 := hk 1 (by simp)
  rw [kd_zero, Nat.zero_mul, Nat.add_zero] at h0
  rw [kd_succ, kd_zero, Nat.one_mul] at h1
  exact ⟨b, off, e, h0, h1⟩
theorem cnt_one {k n : Int} {g : Fm} : cntF (.mk k n [g]) = 1 + cntF g := by simp [cntF, cntL]
theorem cnt_two {k n : Int} {g h : Fm} : cntF (.mk k n [g, h]) = 1 + cntF g + cntF h := by simp [cntF, cntL]; omega
/-- The weight, at most a number above MaxNodes. -/
def wcF (f : Fm) : Nat := min (wgF f) 40000
end Go.Proofs.Ytinpmdekdfgiiaa
